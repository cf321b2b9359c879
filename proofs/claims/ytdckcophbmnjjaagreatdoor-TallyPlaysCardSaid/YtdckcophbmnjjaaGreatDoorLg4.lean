/- Drawn regions: the rule. Drawn regions: the rule is sound. Functions: what was made on the way may be forgotten. -/
import Derived.Test.YtdckcophbmnjjaaGreatDoorLg3
import Derived.KernelRfl
set_option linter.all false
namespace Go.Proofs.YtdckcophbmnjjaaGreatDoor.Ab
open Go

/-- How an operation of a drawn region may be taken: quiet (it reads, it makes); it only reads what stays; a call that changes nothing, its value told beforehand; whatever. -/
inductive Cls where
  | q | r (us : List Nat) | k | e | t
  deriving DecidableEq

/-- Is an operation carried out? -/
def gd (ops : Array Oper) (ts : TS) (o : Oper) : Option Bool := match o.guard with
  | none => some true
  | some (j, want) => match (ops[j]?).bind (·.dst) with
    | none => some false
    | some d => match ts d with
      | .bool b => some (b == want)
      | .tuple _ => some false
      | _ => none
theorem wantA_of_gd {ops : Array Oper} {ts : TS} {o : Oper} {yes no : Prop} (h : match gd ops ts o with | some true => yes | some false => no | none => False) : wantA ops ts o yes no := by
  unfold gd at h
  unfold wantA
  cases hg : o.guard with
  | none => rw [hg] at h; exact h
  | some g =>
    obtain ⟨j, want⟩ := g
    rw [hg] at h
    simp only at h ⊢
    cases hj : (ops[j]?).bind (·.dst) with
    | none => rw [hj] at h; exact h
    | some d =>
      rw [hj] at h
      simp only at h ⊢
      cases hb : ts d <;> rw [hb] at h <;> try exact h
      rename_i b
      simp only at h ⊢
      cases b <;> cases want <;> simp_all

def plain : D → D
  | .pure c v => .pure c v
  | .read p c f => .read p c f
  | .alloc c x mk => .alloc c x mk
  | _ => .fail
def calm (S : Nat → Prop) : D → D
  | .pure c v => .pure c v
  | .read p c f => .read p (fun x => S p ∧ c x) f
  | _ => .fail
/-- What stays: what m0 says of S. -/
def Stays (S : Nat → Prop) (m0 m : Heap) : Prop := ∀ p x, S p → m0 p = some x → m p = some x
/-- A call that changes nothing, in whatever memory that holds what stays. -/
def QCall (P : Program) (G : Nat → AVal) (S : Nat → Prop) (m0 : Heap) (f : FuncId) (args : List AVal) (v : AVal) : Prop :=
  ∀ m', Stays S m0 m' → CallWP P G f args m' fun v' m'' => v' = v ∧ m'' = m'
structure Dr where
  P : Program
  G : Nat → AVal
  ops : Array Oper
  qv : Nat → AVal
  S0 : Nat → Prop
  S : Nat → Nat → Prop
  m0 : Heap
  rt : Nat → Heap → AVal → Heap → Prop
def Dr.eff (R : Dr) (i : Nat) (e : Operand → AVal) (op : Op) : D := .eff fun m K => opGo R.P R.G e op m fun v m' => ((∀ p, R.S0 p → m' p = m p) ∧ ∀ p, R.S i p → m' p = m p) ∧ K v m'
def Dr.qc (R : Dr) (i : Nat) : Option (FuncId × List AVal) → D
  | some (f, args) => .pure (QCall R.P R.G R.S0 R.m0 f args (R.qv i)) (R.qv i)
  | none => .fail
/-- What an effect is told to do stands, whatever else is made beside it. -/
def FrameOK (R : Heap → AVal → Heap → Prop) : Prop := (∀ m v m', R m v m' → ∀ p x, m p = some x → m' p = some x) ∧ ∀ m v m' b z, R m v m' → m' b = none → R (hupd m b z) v (hupd m' b z)
def Told (P : Program) (G : Nat → AVal) (S : Nat → Prop) (m0 : Heap) (e : Operand → AVal) (op : Op) (R : Heap → AVal → Heap → Prop) : Prop := (∀ m', Stays S m0 m' → opGo P G e op m' fun v m'' => R m' v m'') ∧ FrameOK R
def Dr.told (R : Dr) (i : Nat) (e : Operand → AVal) (op : Op) : D := .eff fun m K => Told R.P R.G R.S0 R.m0 e op (R.rt i) ∧ ∀ v m', R.rt i m v m' → K v m'
def Cls.big : Cls → Bool
  | .e | .t => true
  | _ => false
def Dr.act (R : Dr) (c : Cls) (i : Nat) (e : Operand → AVal) (op : Op) : D := match c with
  | .q => plain (den R.P e op)
  | .r us => calm (fun p => ∀ u, u ∈ us → R.S u p) (den R.P e op)
  | .k => R.qc i (callOf e op)
  | .e => R.eff i e op
  | .t => R.told i e op
def Dr.d (R : Dr) (c : Cls) (i : Nat) (o : Oper) (ts : TS) : D := match gd R.ops ts o with
  | some true => R.act c i (ev R.G ts) o.op
  | some false => .pure True (.tuple [])
  | none => .fail
def Dr.step (R : Dr) (x : Nat × Cls) (ts : TS) (m : Heap) (K : TS → Heap → Prop) : Prop := match R.ops[x.1]? with
  | some o => (R.d x.2 x.1 o ts).run m fun v m' => K (put ts o.dst v) m'
  | none => False
def Dr.go (R : Dr) : List (Nat × Cls) → TS → Heap → (TS → Heap → Prop) → Prop
  | [], ts, m, K => K ts m
  | x :: rest, ts, m, K => R.step x ts m fun ts' m' => R.go rest ts' m' K

/-! ### An operation depends on what it looks at -/
theorem den_congr {P : Program} {e e' : Operand → AVal} {op : Op} (h : ∀ x, x ∈ op.operands → e x = e' x) : den P e op = den P e' op := by
  cases op <;> simp only [den] <;> first | rfl | skip
  case build t ps =>
    have : aparts e ps = aparts e' ps := by
      unfold aparts
      refine List.map_congr_left fun p hp => ?_
      rw [h p.2 (by simp only [Op.operands]; simp; exact ⟨p.1, by simpa using hp⟩)]
    rw [this]
  case buildSlice t n ps =>
    have : aparts e ps = aparts e' ps := by
      unfold aparts
      refine List.map_congr_left fun p hp => ?_
      rw [h p.2 (by simp only [Op.operands]; simp; exact ⟨p.1, by simpa using hp⟩)]
    rw [this]
  case makeFunc fn fs cs =>
    have h1 : fs.toList.map e = fs.toList.map e' := List.map_congr_left fun x hx => h x (by simp only [Op.operands]; simp at hx ⊢; exact .inl hx)
    have h2 : cs.toList.map e = cs.toList.map e' := List.map_congr_left fun x hx => h x (by simp only [Op.operands]; simp at hx ⊢; exact .inr hx)
    rw [h1, h2]
  case slice t x lo hi mx =>
    rw [h x (by simp [Op.operands])]
    have h1 : lo.map e = lo.map e' := by cases lo with | none => rfl | some y => simp [h y (by simp [Op.operands])]
    have h2 : hi.map e = hi.map e' := by cases hi with | none => rfl | some y => simp [h y (by simp [Op.operands])]
    have h3 : mx.map e = mx.map e' := by cases mx with | none => rfl | some y => simp [h y (by simp [Op.operands])]
    rw [h1, h2, h3]
  case makeMap t r =>
    have h1 : r.map e = r.map e' := by cases r with | none => rfl | some y => simp [h y (by simp [Op.operands])]
    rw [h1]
  case call c =>
    unfold acall
    have : c.args.toList.map e = c.args.toList.map e' := List.map_congr_left fun x hx => h x (by simp only [Op.operands, Call.operands]; simp at hx ⊢; exact .inr hx)
    rw [this]
  all_goals simp [Op.operands] at h; simp [h]
theorem callOf_congr {e e' : Operand → AVal} {op : Op} (h : ∀ x, x ∈ op.operands → e x = e' x) : callOf e op = callOf e' op := by
  cases op <;> simp only [callOf]
  rename_i c
  have : c.args.toList.map e = c.args.toList.map e' := List.map_congr_left fun x hx => h x (by simp only [Op.operands, Call.operands]; simp at hx ⊢; exact .inr hx)
  rw [this]
  split
  · rename_i f hf
    rw [h f (by simp only [Op.operands, Call.operands, hf]; simp)]
  · rfl

theorem specOf_congr {e e' : Operand → AVal} {op : Op} (h : ∀ x, x ∈ op.operands → e x = e' x) : specOf e op = specOf e' op := by
  cases op <;> simp only [specOf]
  rename_i c
  have : c.args.toList.map e = c.args.toList.map e' := List.map_congr_left fun x hx => h x (by simp only [Op.operands, Call.operands]; simp at hx ⊢; exact .inr hx)
  rw [this]
  split
  · rename_i f hf
    rw [h f (by simp only [Op.operands, Call.operands, hf]; simp)]
  · rename_i f name hf
    rw [h f (by simp only [Op.operands, Call.operands, hf]; simp)]
  · rfl

theorem ev_put {G : Nat → AVal} {ts : TS} {dst : Option Nat} {v : AVal} {x : Operand} (h : ∀ d, dst = some d → x ≠ .tmp d) : ev G (put ts dst v) x = ev G ts x := by
  cases x with
  | tmp t =>
    cases dst with
    | none => rfl
    | some d =>
      have : t ≠ d := fun e => h d rfl (by rw [e])
      simp only [ev, put, upd]
      rw [if_neg this]
  | _ => rfl

theorem Dr.d_put (R : Dr) (c : Cls) (i : Nat) (o : Oper) (ts : TS) (dst : Option Nat) (v : AVal) (h : ∀ d, dst = some d → d ∉ o.looksAt R.ops) : R.d c i o (put ts dst v) = R.d c i o ts := by
  have he : ∀ x, x ∈ o.op.operands → ev R.G (put ts dst v) x = ev R.G ts x := fun x hx => ev_put fun d hd hxd => h d hd (by
    subst hxd
    exact List.mem_append_left _ (List.mem_filterMap.2 ⟨.tmp d, by simpa using hx, rfl⟩))
  have hg : gd R.ops (put ts dst v) o = gd R.ops ts o := by
    unfold gd
    split
    · rfl
    · rename_i j want hg
      split
      · rfl
      · rename_i d hj
        have : put ts dst v d = ts d := by
          cases dst with
          | none => rfl
          | some d' =>
            simp only [put, upd]
            rw [if_neg]
            intro e
            refine h d' rfl (List.mem_append_right _ ?_)
            rw [hg]
            simp only [hj, ← e]
            simp
        rw [this]
  unfold Dr.d
  rw [hg]
  split
  · unfold Dr.act
    rw [den_congr he, callOf_congr he]
    have : R.eff i (ev R.G (put ts dst v)) o.op = R.eff i (ev R.G ts) o.op := by
      unfold Dr.eff opGo
      rw [den_congr he, callOf_congr he, specOf_congr he]
    have this2 : R.told i (ev R.G (put ts dst v)) o.op = R.told i (ev R.G ts) o.op := by
      unfold Dr.told Told opGo
      rw [den_congr he, callOf_congr he, specOf_congr he]
    rw [this, this2]
  · rfl
  · rfl

theorem put_swap (ts : TS) (a b : Option Nat) (v u : AVal) (h : ∀ d, a = some d → b ≠ some d) : put (put ts a v) b u = put (put ts b u) a v := by
  cases a with
  | none => rfl
  | some i =>
    cases b with
    | none => rfl
    | some j =>
      have : i ≠ j := fun e => h i rfl (by rw [e])
      funext k
      simp only [put, upd]
      by_cases h1 : k = j
      · subst h1; simp [Ne.symm this]
      · by_cases h2 : k = i <;> simp [h1, h2, this]

/-! ### Two operations, either first -/
def D.quiet : D → Bool
  | .fail | .pure _ _ | .read _ _ _ | .alloc _ _ _ => true
  | _ => false
/-- There is always a block that is not yet there. -/
def FS (m : Heap) : Prop := ∃ n, ∀ b, n ≤ b → m b = none
theorem FS.upd {m : Heap} (h : FS m) (b : Nat) (x : ABlk) : FS (hupd m b x) := by
  obtain ⟨n, hn⟩ := h
  refine ⟨max n (b + 1), fun c hc => ?_⟩
  simp only [hupd]
  rw [if_neg (by omega)]
  exact hn c (by omega)
theorem quiet_next {d : D} {m : Heap} {K K' : AVal → Heap → Prop} (hq : d.quiet = true) (hf : FS m) (hk : ∀ v m', FS m' → K v m' → K' v m') (h : d.run m K) : d.run m K' := by
  cases d with
  | fail => exact h
  | pure c v => exact ⟨h.1, hk _ _ hf h.2⟩
  | read p c f =>
    simp only [D.run] at h ⊢
    split at h
    · exact ⟨h.1, hk _ _ hf h.2⟩
    · exact h
  | alloc c x mk => exact ⟨h.1, fun b hb => hk _ _ (hf.upd b x) (h.2 b hb)⟩
  | write p c f v => simp [D.quiet] at hq
  | eff T => simp [D.quiet] at hq

theorem hupd_ne {m : Heap} {b p : Nat} {x : ABlk} (h : p ≠ b) : hupd m b x p = m p := by simp [hupd, h]
theorem hupd_eq {m : Heap} {b : Nat} {x : ABlk} : hupd m b x b = some x := by simp [hupd]
theorem hupd_swap {m : Heap} {b c : Nat} {x y : ABlk} (h : b ≠ c) : hupd (hupd m b x) c y = hupd (hupd m c y) b x := by
  funext i
  simp only [hupd]
  by_cases h1 : i = c
  · subst h1; simp [Ne.symm h]
  · simp [h1]

theorem swap_qq {x y : D} {m : Heap} {K : AVal → AVal → Heap → Prop} (hx : x.quiet = true) (hy : y.quiet = true) (hf : FS m) (h : x.run m fun v m' => y.run m' fun u m'' => K v u m'') :
    y.run m fun u m' => x.run m' fun v m'' => K v u m'' := by
  have hpure : ∀ {c : Prop} {v : AVal}, x = .pure c v → y.run m fun u m' => x.run m' fun v m'' => K v u m'' := by
    rintro c v rfl
    exact quiet_next hy hf (fun u m' _ hk => ⟨h.1, hk⟩) h.2
  obtain ⟨n, hn⟩ := id hf
  cases x with
  | fail => exact h.elim
  | pure c v => exact hpure rfl
  | write p c f v => simp [D.quiet] at hx
  | eff T => simp [D.quiet] at hx
  | read p c f =>
    simp only [D.run] at h
    split at h
    · rename_i z hz
      obtain ⟨hc, h⟩ := h
      cases y with
      | fail => exact h.elim
      | pure c' u => exact ⟨h.1, by simp only [D.run, hz]; exact ⟨hc, h.2⟩⟩
      | write p c f v => simp [D.quiet] at hy
      | eff T => simp [D.quiet] at hy
      | read p' c' f' =>
        simp only [D.run] at h ⊢
        split at h
        · exact ⟨h.1, by simp only [hz]; exact ⟨hc, h.2⟩⟩
        · exact h.elim
      | alloc c' z' mk =>
        refine ⟨h.1, fun b hb => ?_⟩
        have hp : p ≠ b := fun e => by rw [e, hb] at hz; cases hz
        simp only [D.run, hupd_ne hp, hz]
        exact ⟨hc, h.2 b hb⟩
    · exact h.elim
  | alloc c z mk =>
    obtain ⟨hc, h⟩ := h
    cases y with
    | fail => exact (h n (hn n (Nat.le_refl _))).elim
    | pure c' u => exact ⟨(h n (hn n (Nat.le_refl _))).1, hc, fun b hb => (h b hb).2⟩
    | write p c f v => simp [D.quiet] at hy
    | eff T => simp [D.quiet] at hy
    | read p' c' f' =>
      have hp : m p' ≠ none := by
        intro hp
        have := h (max n (p' + 1)) (hn _ (by omega))
        simp only [D.run] at this
        rw [hupd_ne (by omega), hp] at this
        exact this
      have hne : ∀ b, m b = none → p' ≠ b := fun b hb e => hp (by rw [e, hb])
      simp only [D.run]
      cases hz : m p' with
      | none => exact absurd hz hp
      | some z' =>
        have h' : ∀ b, m b = none → c' z' ∧ K (mk b) (f' z') (hupd m b z) := by
          intro b hb
          have := h b hb
          simp only [D.run] at this
          rw [hupd_ne (hne b hb), hz] at this
          exact this
        exact ⟨(h' n (hn n (Nat.le_refl _))).1, hc, fun b hb => (h' b hb).2⟩
    | alloc c' z' mk' =>
      refine ⟨(h n (hn n (Nat.le_refl _))).1, fun b hb => ⟨hc, fun b' hb' => ?_⟩⟩
      have hne : b' ≠ b := fun e => by rw [e, hupd_eq] at hb'; cases hb'
      have hb'' : m b' = none := by rw [hupd_ne hne] at hb'; exact hb'
      have := (h b' hb'').2 b (by rw [hupd_ne (Ne.symm hne)]; exact hb)
      rw [hupd_swap hne] at this
      exact this

/-- What is only read, and what has an effect that leaves it. -/
def D.calmB (S : Nat → Prop) : D → Prop
  | .fail | .pure _ _ => True
  | .read p c _ => ∀ x, c x → S p
  | _ => False
theorem swap_ce {S : Nat → Prop} {x : D} {T : Heap → (AVal → Heap → Prop) → Prop} {m : Heap} {K : AVal → AVal → Heap → Prop} (hx : x.calmB S)
    (hT : ∀ m K K', (∀ v m', (∀ p, S p → m' p = m p) → K v m' → K' v m') → T m K → T m K') (h : x.run m fun v m' => T m' fun u m'' => K v u m'') :
    T m fun u m' => x.run m' fun v m'' => K v u m'' := by
  cases x with
  | fail => exact h.elim
  | pure c v => exact hT _ _ _ (fun u m' _ hk => ⟨h.1, hk⟩) h.2
  | read p c f =>
    simp only [D.run] at h
    split at h
    · rename_i z hz
      refine hT _ _ _ (fun u m' hs hk => ?_) h.2
      simp only [D.run]
      rw [hs p (hx z h.1), hz]
      exact ⟨h.1, hk⟩
    · exact h.elim
  | alloc c x mk => exact hx.elim
  | write p c f v => exact hx.elim
  | eff T => exact hx.elim

theorem plain_quiet (d : D) : (plain d).quiet = true := by cases d <;> rfl
theorem calm_quiet (S : Nat → Prop) (d : D) : (calm S d).quiet = true := by cases d <;> rfl
theorem calm_calm (S : Nat → Prop) (d : D) : (calm S d).calmB S := by cases d <;> first | trivial | exact fun _ h => h.1
theorem Dr.d_quiet (R : Dr) {c : Cls} (hc : c.big = false) (i : Nat) (o : Oper) (ts : TS) : (R.d c i o ts).quiet = true := by
  unfold Dr.d
  split
  · unfold Dr.act
    cases c with
    | q => exact plain_quiet _
    | r us => exact calm_quiet _ _
    | k => simp only; cases callOf (ev R.G ts) o.op <;> rfl
    | e => cases hc
    | t => cases hc
  · rfl
  · rfl
/-- May an effect go ahead of it? -/
def Cls.lets (c : Cls) (j : Nat) : Bool := match c with
  | .r us => us.contains j
  | .k => true
  | _ => false
theorem Dr.d_calm (R : Dr) {c : Cls} {j : Nat} (hc : c.lets j = true) (i : Nat) (o : Oper) (ts : TS) : (R.d c i o ts).calmB (R.S j) := by
  unfold Dr.d
  split
  · unfold Dr.act
    cases c with
    | r us =>
      simp only [Cls.lets, List.contains_iff_mem] at hc
      have := calm_calm (fun p => ∀ u, u ∈ us → R.S u p) (den R.P (ev R.G ts) o.op)
      revert this
      simp only
      generalize calm _ _ = d
      intro this
      cases d <;> first | trivial | exact fun x hx => this x hx j hc | exact this
    | k => simp only; cases callOf (ev R.G ts) o.op <;> trivial
    | q => cases hc
    | e => cases hc
    | t => cases hc
  · trivial
  · trivial

/-- May y be taken ahead of x? -/
def okPair (ops : Array Oper) (x y : Nat × Cls) : Bool := match ops[x.1]?, ops[y.1]? with
  | some a, some b => a.apart ops b && decide (x.2.big = false) && (decide (y.2.big = false) || (x.2.lets y.1 || decide (y.2 = .t)))
  | _, _ => false

theorem swap_qt {x : D} {C : Prop} {R : Heap → AVal → Heap → Prop} {m : Heap} {K : AVal → AVal → Heap → Prop} (hx : x.quiet = true) (hF : C → FrameOK R) (hf : FS m) (h : x.run m fun v m' => C ∧ ∀ u m'', R m' u m'' → K v u m'') :
    C ∧ ∀ u m', R m u m' → x.run m' fun v m'' => K v u m'' := by
  obtain ⟨n, hn⟩ := id hf
  cases x with
  | fail => exact h.elim
  | pure c v => exact ⟨h.2.1, fun u m' hr => ⟨h.1, h.2.2 u m' hr⟩⟩
  | read p c f =>
    simp only [D.run] at h
    split at h
    · rename_i z hz
      refine ⟨h.2.1, fun u m' hr => ?_⟩
      simp only [D.run]
      rw [(hF h.2.1).1 m u m' hr p z hz]
      exact ⟨h.1, h.2.2 u m' hr⟩
    · exact h.elim
  | alloc c z mk =>
    have hC := (h.2 n (hn n (Nat.le_refl _))).1
    refine ⟨hC, fun u m' hr => ⟨h.1, fun b hb => ?_⟩⟩
    have hbm : m b = none := by
      cases hm : m b with
      | none => rfl
      | some y => rw [(hF hC).1 m u m' hr b y hm] at hb; cases hb
    exact (h.2 b hbm).2 u _ ((hF hC).2 m u m' b z hr hb)
  | write p c f v => simp [D.quiet] at hx
  | eff T => simp [D.quiet] at hx
theorem Dr.swap (R : Dr) {x y : Nat × Cls} (h : okPair R.ops x y = true) {ts : TS} {m : Heap} {K : TS → Heap → Prop} (hf : FS m)
    (hr : R.step x ts m fun ts1 m1 => R.step y ts1 m1 K) : R.step y ts m fun ts1 m1 => R.step x ts1 m1 K := by
  obtain ⟨i, c⟩ := x
  obtain ⟨j, c'⟩ := y
  unfold okPair at h
  simp only at h
  cases ha : R.ops[i]? with
  | none => rw [ha] at h; simp at h
  | some a =>
    cases hb : R.ops[j]? with
    | none => rw [ha, hb] at h; simp at h
    | some b =>
      rw [ha, hb] at h
      simp only [Bool.and_eq_true, decide_eq_true_eq, Bool.or_eq_true] at h
      obtain ⟨⟨h1, h2⟩, h3⟩ := h
      obtain ⟨a1, a2, a3⟩ := Oper.apart_spec h1
      simp only [Dr.step, ha, hb] at hr ⊢
      simp only [R.d_put c' j b ts a.dst _ a1] at hr
      simp only [R.d_put c i a ts b.dst _ a3]
      have e : ∀ v u, put (put ts b.dst u) a.dst v = put (put ts a.dst v) b.dst u := fun v u => (put_swap ts a.dst b.dst v u a2).symm
      simp only [e]
      by_cases ht : c' = .t
      · subst ht
        have hcase : R.d .t j b ts = R.told j (ev R.G ts) b.op ∨ R.d .t j b ts = .pure True (.tuple []) ∨ R.d .t j b ts = .fail := by
          unfold Dr.d
          split
          · exact .inl rfl
          · exact .inr (.inl rfl)
          · exact .inr (.inr rfl)
        rcases hcase with hd | hd | hd
        · rw [hd] at hr ⊢
          exact swap_qt (K := fun v u m' => K (put (put ts a.dst v) b.dst u) m') (R.d_quiet h2 i a ts) (fun h => h.2) hf hr
        · rw [hd] at hr ⊢
          exact swap_qq (K := fun v u m' => K (put (put ts a.dst v) b.dst u) m') (R.d_quiet h2 i a ts) rfl hf hr
        · rw [hd] at hr ⊢
          exact swap_qq (K := fun v u m' => K (put (put ts a.dst v) b.dst u) m') (R.d_quiet h2 i a ts) rfl hf hr
      by_cases hc' : c' = .e
      · subst hc'
        have hc : c.lets j = true := by rcases h3 with h3 | h3 | h3 <;> simp_all [Cls.big]
        have hcalm := R.d_calm hc i a ts
        have hcase : R.d .e j b ts = R.eff j (ev R.G ts) b.op ∨ R.d .e j b ts = .pure True (.tuple []) ∨ R.d .e j b ts = .fail := by
          unfold Dr.d
          split
          · exact .inl rfl
          · exact .inr (.inl rfl)
          · exact .inr (.inr rfl)
        rcases hcase with hd | hd | hd
        · rw [hd] at hr ⊢
          refine swap_ce (S := R.S j) (K := fun v u m' => K (put (put ts a.dst v) b.dst u) m') hcalm ?_ hr
          intro m K K' hk hh
          exact opGo_mono (fun v m' hv => ⟨hv.1, hk v m' hv.1.2 hv.2⟩) hh
        · rw [hd] at hr ⊢
          exact swap_qq (K := fun v u m' => K (put (put ts a.dst v) b.dst u) m') (R.d_quiet h2 i a ts) rfl hf hr
        · rw [hd] at hr ⊢
          exact swap_qq (K := fun v u m' => K (put (put ts a.dst v) b.dst u) m') (R.d_quiet h2 i a ts) rfl hf hr
      · exact swap_qq (K := fun v u m' => K (put (put ts a.dst v) b.dst u) m') (R.d_quiet h2 i a ts) (R.d_quiet (by cases c' <;> first | rfl | exact absurd rfl hc' | exact absurd rfl ht) j b ts) hf hr

theorem Dr.step_next (R : Dr) {x : Nat × Cls} (hx : x.2.big = false) {ts : TS} {m : Heap} {K K' : TS → Heap → Prop} (hf : FS m) (hk : ∀ ts' m', FS m' → K ts' m' → K' ts' m') (h : R.step x ts m K) : R.step x ts m K' := by
  unfold Dr.step at h ⊢
  split
  · rename_i o ho
    rw [ho] at h
    exact quiet_next (R.d_quiet hx _ _ _) hf (fun v m' hf' hv => hk _ _ hf' hv) h
  · simp_all

theorem Dr.bubble (R : Dr) {y : Nat × Cls} {rest : List (Nat × Cls)} {K : TS → Heap → Prop} : ∀ (l : List (Nat × Cls)) (ts : TS) (m : Heap), (∀ x, x ∈ l → okPair R.ops x y = true) → FS m →
    R.go (l ++ y :: rest) ts m K → R.go (y :: (l ++ rest)) ts m K
  | [], ts, m, _, _, h => h
  | x :: l, ts, m, hl, hf, h => by
    have hx := hl x (by simp)
    have hne : x.2.big = false := by
      unfold okPair at hx
      split at hx
      · simp only [Bool.and_eq_true, decide_eq_true_eq] at hx; exact hx.1.2
      · simp at hx
    have h1 : R.step x ts m fun ts' m' => R.go (l ++ y :: rest) ts' m' K := h
    have h2 : R.step x ts m fun ts' m' => R.step y ts' m' fun ts'' m'' => R.go (l ++ rest) ts'' m'' K :=
      R.step_next hne hf (fun ts' m' hf' hg => R.bubble l ts' m' (fun z hz => hl z (by simp [hz])) hf' hg) h1
    exact R.swap hx hf h2

end Go.Proofs.YtdckcophbmnjjaaGreatDoor.Ab
namespace Go.Proofs.YtdckcophbmnjjaaGreatDoor.Ab
open Go

def orBits (B : List Nat) : List Edge → Nat
  | [] => 0
  | e :: es => if Region.binds .any e then ((1 <<< e.on) ||| B.getD e.on 0) ||| orBits B es else orBits B es
def masksGo : List Oper → List Nat → List Nat
  | [], acc => acc
  | o :: os, acc => masksGo os (acc ++ [orBits acc o.after.toList])
def opChk (B : List Nat) (N : Nat) : Nat → List Oper → Bool
  | _, [] => true
  | i, o :: os => B.getD i 0 == orBits B o.after.toList && o.after.toList.all (fun e => !Region.binds .any e || decide (e.on < i)) && (match o.dst with | some d => decide (d < N) | none => true) && opChk B N (i + 1) os
def pairB (ops : Array Oper) (B : List Nat) (x y : Nat × Cls) : Bool := x.1 != y.1 && ((B.getD y.1 0).testBit x.1 || okPair ops x y)
def pairsB (ops : Array Oper) (B : List Nat) : List (Nat × Cls) → Bool
  | [] => true
  | x :: rest => rest.all (pairB ops B x) && pairsB ops B rest
def chkWith (ops : Array Oper) (N : Nat) (ord : List (Nat × Cls)) (B : List Nat) : Bool :=
  opChk B N 0 ops.toList && (List.range ops.size).all (fun i => ord.any fun x => x.1 == i) && ord.all (fun x => decide (x.1 < ops.size)) && decide (ord.length ≤ ops.size) && pairsB ops B ord
/-- The order that is walked stands for every other one. -/
def chk (ops : Array Oper) (N : Nat) (ord : List (Nat × Cls)) : Bool := chkWith ops N ord (masksGo ops.toList [])

theorem orBits_spec {B : List Nat} {x : Nat} : ∀ (es : List Edge), (orBits B es).testBit x = true → ∃ e, e ∈ es ∧ Region.binds .any e = true ∧ (e.on = x ∨ (B.getD e.on 0).testBit x = true)
  | [], h => by simp [orBits] at h
  | e :: es, h => by
    simp only [orBits] at h
    split at h
    · rename_i hb
      simp only [Nat.testBit_or, Bool.or_eq_true] at h
      rcases h with (h | h) | h
      · rw [Nat.one_shiftLeft, Nat.testBit_two_pow] at h
        exact ⟨e, by simp, hb, .inl (by simpa using h)⟩
      · exact ⟨e, by simp, hb, .inr h⟩
      · obtain ⟨e', h1, h2⟩ := orBits_spec es h
        exact ⟨e', by simp [h1], h2⟩
    · obtain ⟨e', h1, h2⟩ := orBits_spec es h
      exact ⟨e', by simp [h1], h2⟩
theorem opChk_spec {B : List Nat} {N : Nat} : ∀ (os : List Oper) (k : Nat), opChk B N k os = true → ∀ (i : Nat) (o : Oper), os[i]? = some o →
    B.getD (k + i) 0 = orBits B o.after.toList ∧ (∀ e, e ∈ o.after.toList → Region.binds .any e = true → e.on < k + i) ∧ (∀ d, o.dst = some d → d < N)
  | [], k, _, i, o, h => by simp at h
  | p :: os, k, hc, i, o, h => by
    simp only [opChk, Bool.and_eq_true, beq_iff_eq, List.all_eq_true, Bool.or_eq_true, Bool.not_eq_true', decide_eq_true_eq] at hc
    cases i with
    | zero =>
      simp only [List.getElem?_cons_zero, Option.some.injEq] at h
      subst h
      refine ⟨hc.1.1.1, fun e he hb => ?_, fun d hd => ?_⟩
      · rcases hc.1.1.2 e he with h | h
        · rw [hb] at h; cases h
        · exact h
      · have := hc.1.2
        rw [hd] at this
        simpa using this
    | succ i =>
      have := opChk_spec os (k + 1) hc.2 i o (by simpa using h)
      rw [show k + 1 + i = k + (i + 1) by omega] at this
      exact this
theorem pairsB_spec {ops : Array Oper} {B : List Nat} : ∀ (l : List (Nat × Cls)), pairsB ops B l = true → List.Pairwise (fun x y => pairB ops B x y = true) l
  | [], _ => .nil
  | x :: l, h => by
    simp only [pairsB, Bool.and_eq_true, List.all_eq_true] at h
    exact .cons h.1 (pairsB_spec l h.2)

theorem plain_run {S : Nat → Prop} {m0 m : Heap} {d : D} {K : AVal → Heap → Prop} (hst : Stays S m0 m) (h : (plain d).run m K) : d.run m fun v m' => Stays S m0 m' ∧ K v m' := by
  cases d with
  | fail => exact h
  | pure c v => exact ⟨h.1, hst, h.2⟩
  | read p c f =>
    simp only [plain, D.run] at h ⊢
    split at h
    · exact ⟨h.1, hst, h.2⟩
    · exact h
  | alloc c x mk =>
    refine ⟨h.1, fun b hb => ⟨fun p y hp hy => ?_, h.2 b hb⟩⟩
    have := hst p y hp hy
    rw [hupd_ne (fun e => by rw [e, hb] at this; cases this)]
    exact this
  | write p c f v => exact h.elim
  | eff T => exact h.elim
theorem calm_run {S S' : Nat → Prop} {m0 m : Heap} {d : D} {K : AVal → Heap → Prop} (hst : Stays S m0 m) (h : (calm S' d).run m K) : d.run m fun v m' => Stays S m0 m' ∧ K v m' := by
  cases d with
  | fail => exact h
  | pure c v => exact ⟨h.1, hst, h.2⟩
  | read p c f =>
    simp only [calm, D.run] at h ⊢
    split at h
    · exact ⟨h.1.2, hst, h.2⟩
    · exact h
  | alloc c x mk => exact h.elim
  | write p c f v => exact h.elim
  | eff T => exact h.elim

theorem Dr.act_go (R : Dr) {c : Cls} {i : Nat} {e : Operand → AVal} {op : Op} {m : Heap} {K : AVal → Heap → Prop} (hst : Stays R.S0 R.m0 m) (h : (R.act c i e op).run m K) :
    opGo R.P R.G e op m fun v m' => Stays R.S0 R.m0 m' ∧ K v m' := by
  unfold Dr.act at h
  cases c with
  | q => exact opGo_of_den (plain_run hst h)
  | r us => exact opGo_of_den (calm_run hst h)
  | e =>
    have h : opGo R.P R.G e op m fun v m' => ((∀ p, R.S0 p → m' p = m p) ∧ ∀ p, R.S i p → m' p = m p) ∧ K v m' := h
    exact opGo_mono (fun v m' hv => ⟨fun p x hp hx => by rw [hv.1.1 p hp]; exact hst p x hp hx, hv.2⟩) h
  | t =>
    have h : Told R.P R.G R.S0 R.m0 e op (R.rt i) ∧ ∀ v m', R.rt i m v m' → K v m' := h
    exact opGo_mono (fun v m' hv => ⟨fun p x hp hx => h.1.2.1 m v m' hv p x (hst p x hp hx), h.2 v m' hv⟩) (h.1.1 m hst)
  | k =>
    simp only at h
    unfold opGo
    cases hc : callOf e op with
    | none => rw [hc] at h; exact h.elim
    | some p =>
      obtain ⟨f, args⟩ := p
      rw [hc] at h
      obtain ⟨h1, h2⟩ := h
      refine (h1 m hst).mono ?_
      rintro v m' ⟨rfl, rfl⟩
      exact ⟨hst, h2⟩

theorem Dr.step_sound (R : Dr) {N : Nat} {r : Option Nat} {j : Nat} {c : Cls} {ts : TS} {m : Heap} {w : World} {a : Act} {K1 : TS → Heap → Prop} {K2 : Act → World → Prop} {Q : Exit → Act → World → Prop}
    (hN : ∀ o d, R.ops[j]? = some o → o.dst = some d → d < N) (h : R.step (j, c) ts m K1) (hs : Sat m w) (hg : GOk R.G m w) (ht : TRel N m w ts a) (hst : Stays R.S0 R.m0 m)
    (hk : ∀ ts' m' a' w', K1 ts' m' → Sat m' w' → TRel N m' w' ts' a' → Ext m w m' w' → a'.defers = a.defers → Stays R.S0 R.m0 m' → K2 a' w') : wpOpIn (W r) 0 R.P R.ops Q j K2 a w := by
  unfold Dr.step at h
  simp only at h
  unfold wpOpIn
  cases ho : R.ops[j]? with
  | none => rw [ho] at h; exact h.elim
  | some o =>
    rw [ho] at h
    simp only at h ⊢
    have hd' := fun d => hN o d ho
    have hw : wantA R.ops ts o (opGo R.P R.G (ev R.G ts) o.op m fun v m' => Stays R.S0 R.m0 m' ∧ K1 (put ts o.dst v) m') (K1 (put ts o.dst (.tuple [])) m) := by
      refine wantA_of_gd ?_
      unfold Dr.d at h
      cases hgd : gd R.ops ts o with
      | none => rw [hgd] at h; exact h.elim
      | some b =>
        rw [hgd] at h
        cases b with
        | true => exact R.act_go hst h
        | false => exact h.2
    rcases wanted_of ht hw with ⟨hw, hy⟩ | ⟨hw, hn⟩
    · simp only [hw, if_true]
      refine oper_next (oper_sound (r := r) (K := fun ts' m' => Stays R.S0 R.m0 m' ∧ K1 ts' m') hs hg ht hd' hy) ?_
      rintro a' w' ⟨ts', m', ⟨h1, h2⟩, hs', ht', he', hdef⟩
      exact hk _ _ _ _ h2 hs' ht' he' hdef h1
    · simp only [hw, Bool.false_eq_true, if_false]
      refine ⟨fun _ _ => trivial, ?_⟩
      exact hk _ _ _ _ hn hs (ht.put hd' (.tuple [] #[] rfl (fun i hi => by simp at hi))) (Ext.refl _ _) (by cases o.dst <;> rfl) hst

theorem Sat.fs {m : Heap} {w : World} (h : Sat m w) : FS m := ⟨w.heap.size, fun b hb => by
  cases hm : m b with
  | none => rfl
  | some x => have := h.lt hm; omega⟩

section
variable {B : List Nat} {ops : Array Oper} {N : Nat}

theorem trans_listed (hB : opChk B N 0 ops.toList = true) {listed : Array Bool} (hsz : listed.size = ops.size)
    (hcl : ∀ i o, ops[i]? = some o → listed.getD i false = true → ∀ e, e ∈ o.after → Region.binds .any e = true → listed.getD e.on false = true) :
    ∀ (i : Nat) (o : Oper), ops[i]? = some o → (∀ e, e ∈ o.after → Region.binds .any e = true → listed.getD e.on false = true) → ∀ x, (B.getD i 0).testBit x = true → listed.getD x false = true := by
  intro i
  induction i using Nat.strongRecOn with
  | _ i ih =>
    intro o ho hr x hx
    obtain ⟨h1, h2, _⟩ := opChk_spec ops.toList 0 hB i o (by simpa using ho)
    rw [Nat.zero_add] at h1 h2
    rw [h1] at hx
    obtain ⟨e, he, hb, hor⟩ := orBits_spec _ hx
    have hel := hr e (by simpa using he) hb
    rcases hor with rfl | hor
    · exact hel
    · have hlt : e.on < ops.size := by
        rw [← hsz]
        by_cases hlt : e.on < listed.size
        · exact hlt
        · rw [Array.getD_eq_getD_getElem?, Array.getElem?_eq_none (by omega)] at hel; simp at hel
      exact ih e.on (h2 e he hb) ops[e.on] (Array.getElem?_eq_getElem hlt) (hcl e.on _ (Array.getElem?_eq_getElem hlt) hel) x hor

theorem Dr.any_sound (R : Dr) (hR : R.ops = ops) (hB : opChk B N 0 ops.toList = true) {r : Option Nat} {K : TS → Heap → Prop} {Q : Exit → Act → World → Prop} :
    ∀ (fuel : Nat) (ord : List (Nat × Cls)) (listed : Array Bool) (ts : TS) (m : Heap) (w : World) (a : Act), listed.size = ops.size →
      (∀ i, listed.getD i true = false ↔ i ∈ ord.map (·.1)) →
      (∀ i o, ops[i]? = some o → listed.getD i false = true → ∀ e, e ∈ o.after → Region.binds .any e = true → listed.getD e.on false = true) →
      List.Pairwise (fun x y => pairB ops B x y = true) ord → ord.length ≤ fuel → R.go ord ts m K → Sat m w → GOk R.G m w → TRel N m w ts a → Stays R.S0 R.m0 m → (∀ a' w', KW N m w a.defers K a' w' → Q .normal a' w') →
      wpAnyIn (W r) 0 R.P .any ops Q fuel listed a w := by
  intro fuel
  induction fuel with
  | zero =>
    intro ord listed ts m w a hsz hmem hcl hp hlen h hs hg ht hst hQ
    obtain rfl : ord = [] := List.length_eq_zero_iff.1 (Nat.le_zero.1 hlen)
    refine ⟨?_, hQ _ _ ⟨ts, m, h, hs, ht, Ext.refl _ _, rfl⟩⟩
    refine List.eq_nil_iff_forall_not_mem.2 fun j hj => ?_
    have := (hmem j).1 (mem_ready.1 hj).1
    simp at this
  | succ fuel ih =>
    intro ord listed ts m w a hsz hmem hcl hp hlen h hs hg ht hst hQ
    refine ⟨fun hnil => ?_, fun j hj => ?_⟩
    · match ord with
      | [] => exact hQ _ _ ⟨ts, m, h, hs, ht, Ext.refl _ _, rfl⟩
      | x :: ord =>
        exfalso
        have main : ∀ i, listed.getD i true = false → False := by
          intro i
          induction i using Nat.strongRecOn with
          | _ i ih' =>
            intro hi
            have hlt : i < ops.size := by
              rw [← hsz]
              by_cases hlt : i < listed.size
              · exact hlt
              · rw [Array.getD_eq_getD_getElem?, Array.getElem?_eq_none (by omega)] at hi; simp at hi
            have hmr : i ∈ Region.ready .any ops listed := by
              refine mem_ready.2 ⟨hi, ops[i], Array.getElem?_eq_getElem hlt, fun e he hb => ?_⟩
              obtain ⟨_, h2, _⟩ := opChk_spec ops.toList 0 hB i ops[i] (by simp [hlt])
              have hlt' := h2 e (by simpa using he) hb
              cases hl : listed.getD e.on true with
              | false => exact (ih' e.on (by omega) hl).elim
              | true =>
                have : e.on < listed.size := by omega
                rw [Array.getD_eq_getD_getElem?, Array.getElem?_eq_getElem this] at hl ⊢
                simpa using hl
            rw [hnil] at hmr
            cases hmr
        exact main x.1 ((hmem x.1).2 (by simp))
    · have hjr := mem_ready.1 hj
      obtain ⟨hjun, o, ho, hall⟩ := hjr
      have hjm := (hmem j).1 hjun
      obtain ⟨⟨j', c⟩, hjo, hj'⟩ := List.mem_map.1 hjm
      simp only at hj'
      subst hj'
      obtain ⟨l1, l2, rfl⟩ := List.append_of_mem hjo
      have hpw := List.pairwise_append.1 hp
      have hpc := List.pairwise_cons.1 hpw.2.1
      have hok : ∀ x, x ∈ l1 → okPair R.ops x (j', c) = true := by
        intro x hx
        have := hpw.2.2 x hx (j', c) (by simp)
        unfold pairB at this
        simp only [Bool.and_eq_true, Bool.or_eq_true] at this
        rcases this.2 with hb | hb
        · exfalso
          have h1 := trans_listed hB hsz hcl j' o ho hall x.1 hb
          have h2 := (hmem x.1).2 (by simp; exact .inl ⟨_, hx⟩)
          by_cases hlt : x.1 < listed.size
          · rw [Array.getD_eq_getD_getElem?, Array.getElem?_eq_getElem hlt] at h1 h2
            simp at h1 h2
            rw [h1] at h2; cases h2
          · rw [Array.getD_eq_getD_getElem?, Array.getElem?_eq_none (by omega)] at h2; simp at h2
        · rw [hR]; exact hb
      have hgo := R.bubble l1 ts m hok hs.fs h
      have hstep : R.step (j', c) ts m fun ts' m' => R.go (l1 ++ l2) ts' m' K := hgo
      have hN : ∀ o d, R.ops[j']? = some o → o.dst = some d → d < N := by
        intro o' d ho' hd
        rw [hR] at ho'
        exact (opChk_spec ops.toList 0 hB j' o' (by simpa using ho')).2.2 d hd
      have hjlt : j' < listed.size := by rw [hsz]; exact (Array.getElem?_eq_some_iff.1 ho).1
      have := R.step_sound (r := r) (Q := Q) (K2 := wpAnyIn (W r) 0 R.P .any ops Q fuel (listed.setIfInBounds j' true)) hN hstep hs hg ht hst (fun ts' m' a' w' hk hs' ht' he' hdef hst' => by
        refine ih (l1 ++ l2) _ ts' m' w' a' (by simp [hsz]) (fun i => ?_) (fun i o' ho' hi e he hb => ?_) ?_ ?_ hk hs' (hg.ext he') ht' hst' ?_
        · by_cases hij : j' = i
          · subst hij
            have hl : (listed.setIfInBounds j' true).getD j' true = true := by
              rw [Array.getD_eq_getD_getElem?]; simp [hjlt]
            rw [hl]
            refine ⟨fun h => by simp at h, fun hm => ?_⟩
            exfalso
            obtain ⟨y, hy, hy'⟩ := List.mem_map.1 hm
            rcases List.mem_append.1 hy with hy | hy
            · have := hpw.2.2 y hy (j', c) (by simp)
              unfold pairB at this
              simp only [Bool.and_eq_true, bne_iff_ne, ne_eq] at this
              exact this.1 hy'
            · have := hpc.1 y hy
              unfold pairB at this
              simp only [Bool.and_eq_true, bne_iff_ne, ne_eq] at this
              exact this.1 hy'.symm
          · rw [getD_set_ne true hij, hmem i]
            simp only [List.map_append, List.map_cons, List.mem_append, List.mem_cons]
            constructor
            · rintro (h | h | h)
              · exact .inl h
              · exact absurd h.symm hij
              · exact .inr h
            · rintro (h | h)
              · exact .inl h
              · exact .inr (.inr h)
        · by_cases hij : i = j'
          · subst hij
            rw [ho] at ho'; cases ho'
            exact getD_set_true (hall e he hb)
          · refine getD_set_true (hcl i o' ho' ?_ e he hb)
            rw [getD_set_ne false (Ne.symm hij)] at hi
            exact hi
        · exact hp.sublist (List.Sublist.append (List.Sublist.refl l1) (List.sublist_cons_self _ _))
        · simp at hlen ⊢; omega
        · rintro a'' w'' ⟨ts'', m'', hk'', hs'', ht'', he'', hd''⟩
          exact hQ _ _ ⟨ts'', m'', hk'', hs'', ht'', he'.trans he'', hd''.trans hdef⟩)
      rw [hR] at this
      exact this
end

theorem VRel.drawn {m : Heap} {w w' : World} (h : w'.heap = w.heap) (e : Ext m w m w') (hs : Sat m w) : Sat m w' := by
  intro b x hb
  have := hs b x hb
  rw [h]
  cases x with
  | cells cs N => obtain ⟨arr, ty, h1, h2, h3, h4⟩ := this; exact ⟨arr, ty, h1, h2, h3, fun i hi => (h4 i hi).ext e⟩
  | map es bs cl => obtain ⟨a, h1, h2, h3, h4, h5, h6, h7⟩ := this; exact ⟨a, h1, h2, h3, h4, h5, h6, fun i hi => ⟨(h7 i hi).1, (h7 i hi).2.ext e⟩⟩
  | obj o' => exact this
  | loop N ts ps a b st pe => obtain ⟨fn, tmps, D, h1, h2, h3⟩ := this; exact ⟨fn, tmps, D, h1, h2, fun t => (h3 t).ext e⟩

/-- A drawn region, walked in one order that stands for all. -/
theorem awp_drawn {P : Program} {G : Nat → AVal} {N : Nat} {r : Option Nat} {id : Nat} {ops : Array Oper} {Q : Exit → TS → Heap → Prop} {ts : TS} {m : Heap} (ord : List (Nat × Cls)) (qv : Nat → AVal) (S0 : Nat → Prop) (S : Nat → Nat → Prop) (rt : Nat → Heap → AVal → Heap → Prop)
    (hm : P.follows .mixedOrders = true) (hc : chk ops N ord = true) (h : (Dr.mk P G ops qv S0 S m rt).go ord ts m (Q .normal)) : AWP P G N r (.region id ops true) Q ts m := by
  intro B w a hB hs hg ht hd
  unfold chk chkWith at hc
  simp only [Bool.and_eq_true, List.all_eq_true, List.any_eq_true, decide_eq_true_eq, beq_iff_eq, List.mem_range] at hc
  obtain ⟨⟨⟨⟨hc1, hc2⟩, hc3⟩, hlen⟩, hc4⟩ := hc
  have hx : Ext m w m { w with drawn := w.drawn + 1 } := ⟨Nat.le_refl _, rfl, rfl, ⟨rfl, Nat.le_succ _⟩, fun _ _ h => ⟨rfl, h⟩⟩
  refine wpIn_region_any hm ?_
  refine Dr.any_sound (Dr.mk P G ops qv S0 S m rt) rfl hc1 (r := r) (K := Q .normal) ops.size ord _ ts m _ a (by simp) (fun i => ?_) (fun i o ho hi => ?_) (pairsB_spec ord hc4) hlen h (VRel.drawn (w := w) rfl hx hs) (hg.ext hx) (ht.ext hx) (fun _ _ _ h => h) ?_
  · by_cases hlt : i < ops.size
    · simp only [Array.getD_eq_getD_getElem?]
      simp [hlt]
      obtain ⟨x, h1, h2⟩ := hc2 i hlt
      exact ⟨x.2, by rw [← h2]; exact h1⟩
    · simp only [Array.getD_eq_getD_getElem?]
      simp [hlt]
      intro c hc
      exact hlt (hc3 _ hc)
  · exfalso
    simp only [Array.getD_eq_getD_getElem?] at hi
    by_cases hlt : i < ops.size <;> simp [hlt] at hi
  · rintro a' w' ⟨ts', m', hk, hs', ht', he', hdef⟩
    exact ⟨ts', m', hk, hs', ht', hx.trans he', by rw [hdef]; exact hd.ext (hx.trans he')⟩

end Go.Proofs.YtdckcophbmnjjaaGreatDoor.Ab
namespace Go.Proofs.YtdckcophbmnjjaaGreatDoor.Ab
open Go

/-- What one memory says, another says too. -/
def Sub (m m' : Heap) : Prop := ∀ p x, m p = some x → m' p = some x
theorem Sub.refl (m : Heap) : Sub m m := fun _ _ h => h
theorem Sub.gone {m m' : Heap} (h : Sub m m') {p : Nat} (hp : m' p = none) : m p = none := by
  cases hm : m p with
  | none => rfl
  | some x => rw [h p x hm] at hp; cases hp
theorem Sub.fresh {m m' : Heap} {b : Nat} {x : ABlk} (h : Sub m m') (hb : m b = none) : Sub m (hupd m' b x) := by
  intro p y hp
  rw [hupd_ne (fun e => by rw [e, hb] at hp; cases hp)]
  exact h p y hp
theorem VRel.sub {m m' : Heap} {w : World} {v : AVal} {x : Value} (h : VRel m' w v x) (s : Sub m m') : VRel m w v x := by
  induction h with
  | undef v => exact .undef v
  | bool b => exact .bool b
  | int k n => exact .int k n
  | str s => exact .str s
  | nilp => exact .nilp
  | ptr b o => exact .ptr b o
  | rptr cs o b off f hm hb hc _ ih => exact .rptr cs o b off f (s.gone hm) hb hc ih
  | nils => exact .nils
  | slice b o len cap => exact .slice b o len cap
  | list0 sz a cap => exact .list0 sz a cap
  | list sz xs b off cap f hm hb hcap hsz hc _ ih => exact .list sz xs b off cap f (s.gone hm) hb hcap hsz hc ih
  | nilmap => exact .nilmap
  | map b => exact .map b
  | func fn fs cs fs' cs' h1 h2 _ _ ih1 ih2 => exact .func fn fs cs fs' cs' h1 h2 ih1 ih2
  | nilf => exact .nilf
  | iface t v x _ ih => exact .iface t v x ih
  | nili => exact .nili
  | agg cs vs h _ ih => exact .agg cs vs h ih
  | tuple cs vs h _ ih => exact .tuple cs vs h ih
theorem Sat.sub {m m' : Heap} {w : World} (h : Sat m' w) (s : Sub m m') : Sat m w := by
  intro b x hb
  have := h b x (s b x hb)
  cases x with
  | cells cs N => obtain ⟨arr, ty, h1, h2, h3, h4⟩ := this; exact ⟨arr, ty, h1, h2, h3, fun i hi => (h4 i hi).sub s⟩
  | map es bs cl => obtain ⟨a, h1, h2, h3, h4, h5, h6, h7⟩ := this; exact ⟨a, h1, h2, h3, h4, h5, h6, fun i hi => ⟨(h7 i hi).1, (h7 i hi).2.sub s⟩⟩
  | obj o' => exact this
  | loop N ts ps a b st pe => obtain ⟨fn, tmps, D, h1, h2, h3⟩ := this; exact ⟨fn, tmps, D, h1, h2, fun t => (h3 t).sub s⟩
theorem Ext.sub {m m1 m' : Heap} {w w' : World} (h : Ext m w m' w') (s : Sub m1 m') : Ext m w m1 w' :=
  ⟨h.size, h.os, h.tape, h.output, fun b hb hm => ⟨(h.keep b hb hm).1, s.gone (h.keep b hb hm).2⟩⟩

/-- What holds of a part of the memory. -/
def Part (K : AVal → Heap → Prop) (v : AVal) (m' : Heap) : Prop := ∃ m1, Sub m1 m' ∧ K v m1
theorem CallWP.part {P : Program} {G : Nat → AVal} {f : FuncId} {args : List AVal} {m : Heap} {K : AVal → Heap → Prop} (h : CallWP P G f args m (Part K)) : CallWP P G f args m K :=
  h.elim (fun h => .inl ⟨h.1, fun w cargs hs hg hl hv => (h.2 w cargs hs hg hl hv).mono fun _ _ ⟨cv, v, m', h1, ⟨m1, s, hk⟩, h3, h4, h5⟩ => ⟨cv, v, m1, h1, hk, h3.sub s, h4.sub s, h5.sub s⟩⟩)
    (fun h => .inr fun w cargs hs hg hl hv => let ⟨x, v, m', h1, ⟨m1, s, hk⟩, h3, h4, h5⟩ := h w cargs hs hg hl hv; ⟨x, v, m1, h1, hk, h3.sub s, h4.sub s, h5.sub s⟩)

/-- A function that leaves the memory as it was, but for what it made: whatever the memory. -/
theorem callWP_fn {P : Program} {G : Nat → AVal} {f : FuncId} {fn : Func} {c : Code} {args : List AVal} {m : Heap} {K : AVal → Heap → Prop} (hf : P.funcs[f]? = some fn) (hb : fn.body = some c) (he : enters P f = true) (hn : args.length ≤ fn.ntmps)
    (h : run P G fn.ntmps none c (bodyA P fn (Part K)) (fun t => args.getD t (.tuple [])) m) : CallWP P G f args m K :=
  CallWP.part (callWP_of hf hb he hn h)

theorem hupd_none {m : Heap} {b c : Nat} {x : ABlk} : hupd m b x c = none ↔ c ≠ b ∧ m c = none := by
  simp only [hupd]
  by_cases h : c = b <;> simp [h]
theorem D.run_pure {c : Prop} {v : AVal} {m : Heap} {K : AVal → Heap → Prop} : (D.pure c v).run m K ↔ c ∧ K v m := Iff.rfl
end Go.Proofs.YtdckcophbmnjjaaGreatDoor.Ab
