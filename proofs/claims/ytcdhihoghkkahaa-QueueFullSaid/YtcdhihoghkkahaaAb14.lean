/- Drawn regions: the rule. -/
import Derived.Test.YtcdhihoghkkahaaAb13
set_option linter.all false
namespace Go.Proofs.Ytcdhihoghkkahaa.Ab
open Go

/-- How an operation of a drawn region may be taken: quiet (it reads, it makes); it only reads what stays; a call that changes nothing, its value told beforehand; whatever. -/
inductive Cls where
  | q | r (us : List Nat) | k | e
  deriving DecidableEq

/-- Is an operation carried out? -/
def gd (ops : Array Oper) (ts : TS) (o : Oper) : Option Bool := match o.guard with
  | none => some true
  | some (j, want) => match (ops[j]?).bind (·.dst) with
    | none => some false
    | some d => match ts d with
      | .bool b => some (b == want)
      | .tuple _ => some false
      | _ => none
theorem wantA_of_gd {ops : Array Oper} {ts : TS} {o : Oper} {yes no : Prop} (h : match gd ops ts o with | some true => yes | some false => no | none => False) : wantA ops ts o yes no := by
  unfold gd at h
  unfold wantA
  cases hg : o.guard with
  | none => rw [hg] at h; exact h
  | some g =>
    obtain ⟨j, want⟩ := g
    rw [hg] at h
    simp only at h ⊢
    cases hj : (ops[j]?).bind (·.dst) with
    | none => rw [hj] at h; exact h
    | some d =>
      rw [hj] at h
      simp only at h ⊢
      cases hb : ts d <;> rw [hb] at h <;> try exact h
      rename_i b
      simp only at h ⊢
      cases b <;> cases want <;> simp_all

def plain : D → D
  | .pure c v => .pure c v
  | .read p c f => .read p c f
  | .alloc c x mk => .alloc c x mk
  | _ => .fail
def calm (S : Nat → Prop) : D → D
  | .pure c v => .pure c v
  | .read p c f => .read p (fun x => S p ∧ c x) f
  | _ => .fail
/-- What stays: what m0 says of S. -/
def Stays (S : Nat → Prop) (m0 m : Heap) : Prop := ∀ p x, S p → m0 p = some x → m p = some x
/-- A call that changes nothing, in whatever memory that holds what stays. -/
def QCall (P : Program) (G : Nat → AVal) (S : Nat → Prop) (m0 : Heap) (f : FuncId) (args : List AVal) (v : AVal) : Prop :=
  ∀ m', Stays S m0 m' → CallWP P G f args m' fun v' m'' => v' = v ∧ m'' = m'
structure Dr where
  P : Program
  G : Nat → AVal
  ops : Array Oper
  qv : Nat → AVal
  S0 : Nat → Prop
  S : Nat → Nat → Prop
  m0 : Heap
def Dr.eff (R : Dr) (i : Nat) (e : Operand → AVal) (op : Op) : D := .eff fun m K => opGo R.P R.G e op m fun v m' => ((∀ p, R.S0 p → m' p = m p) ∧ ∀ p, R.S i p → m' p = m p) ∧ K v m'
def Dr.qc (R : Dr) (i : Nat) : Option (FuncId × List AVal) → D
  | some (f, args) => .pure (QCall R.P R.G R.S0 R.m0 f args (R.qv i)) (R.qv i)
  | none => .fail
def Dr.act (R : Dr) (c : Cls) (i : Nat) (e : Operand → AVal) (op : Op) : D := match c with
  | .q => plain (den R.P e op)
  | .r us => calm (fun p => ∀ u, u ∈ us → R.S u p) (den R.P e op)
  | .k => R.qc i (callOf e op)
  | .e => R.eff i e op
def Dr.d (R : Dr) (c : Cls) (i : Nat) (o : Oper) (ts : TS) : D := match gd R.ops ts o with
  | some true => R.act c i (ev R.G ts) o.op
  | some false => .pure True (.tuple [])
  | none => .fail
def Dr.step (R : Dr) (x : Nat × Cls) (ts : TS) (m : Heap) (K : TS → Heap → Prop) : Prop := match R.ops[x.1]? with
  | some o => (R.d x.2 x.1 o ts).run m fun v m' => K (put ts o.dst v) m'
  | none => False
def Dr.go (R : Dr) : List (Nat × Cls) → TS → Heap → (TS → Heap → Prop) → Prop
  | [], ts, m, K => K ts m
  | x :: rest, ts, m, K => R.step x ts m fun ts' m' => R.go rest ts' m' K

/-! ### An operation depends on what it looks at -/
theorem den_congr {P : Program} {e e' : Operand → AVal} {op : Op} (h : ∀ x, x ∈ op.operands → e x = e' x) : den P e op = den P e' op := by
  cases op <;> simp only [den] <;> first | rfl | skip
  case build t ps =>
    have : aparts e ps = aparts e' ps := by
      unfold aparts
      refine List.map_congr_left fun p hp => ?_
      rw [h p.2 (by simp only [Op.operands]; simp; exact ⟨p.1, by simpa using hp⟩)]
    rw [this]
  case buildSlice t n ps =>
    have : aparts e ps = aparts e' ps := by
      unfold aparts
      refine List.map_congr_left fun p hp => ?_
      rw [h p.2 (by simp only [Op.operands]; simp; exact ⟨p.1, by simpa using hp⟩)]
    rw [this]
  case makeFunc fn fs cs =>
    have h1 : fs.toList.map e = fs.toList.map e' := List.map_congr_left fun x hx => h x (by simp only [Op.operands]; simp at hx ⊢; exact .inl hx)
    have h2 : cs.toList.map e = cs.toList.map e' := List.map_congr_left fun x hx => h x (by simp only [Op.operands]; simp at hx ⊢; exact .inr hx)
    rw [h1, h2]
  case slice t x lo hi mx =>
    rw [h x (by simp [Op.operands])]
    have h1 : lo.map e = lo.map e' := by cases lo with | none => rfl | some y => simp [h y (by simp [Op.operands])]
    have h2 : hi.map e = hi.map e' := by cases hi with | none => rfl | some y => simp [h y (by simp [Op.operands])]
    have h3 : mx.map e = mx.map e' := by cases mx with | none => rfl | some y => simp [h y (by simp [Op.operands])]
    rw [h1, h2, h3]
  case call c =>
    unfold acall
    have : c.args.toList.map e = c.args.toList.map e' := List.map_congr_left fun x hx => h x (by simp only [Op.operands, Call.operands]; simp at hx ⊢; exact .inr hx)
    rw [this]
  all_goals simp [Op.operands] at h; simp [h]
theorem callOf_congr {e e' : Operand → AVal} {op : Op} (h : ∀ x, x ∈ op.operands → e x = e' x) : callOf e op = callOf e' op := by
  cases op <;> simp only [callOf]
  rename_i c
  have : c.args.toList.map e = c.args.toList.map e' := List.map_congr_left fun x hx => h x (by simp only [Op.operands, Call.operands]; simp at hx ⊢; exact .inr hx)
  rw [this]
  split
  · rename_i f hf
    rw [h f (by simp only [Op.operands, Call.operands, hf]; simp)]
  · rfl

theorem specOf_congr {e e' : Operand → AVal} {op : Op} (h : ∀ x, x ∈ op.operands → e x = e' x) : specOf e op = specOf e' op := by
  cases op <;> simp only [specOf]
  rename_i c
  have : c.args.toList.map e = c.args.toList.map e' := List.map_congr_left fun x hx => h x (by simp only [Op.operands, Call.operands]; simp at hx ⊢; exact .inr hx)
  rw [this]
  split
  · rename_i f hf
    rw [h f (by simp only [Op.operands, Call.operands, hf]; simp)]
  · rename_i f name hf
    rw [h f (by simp only [Op.operands, Call.operands, hf]; simp)]
  · rfl

theorem ev_put {G : Nat → AVal} {ts : TS} {dst : Option Nat} {v : AVal} {x : Operand} (h : ∀ d, dst = some d → x ≠ .tmp d) : ev G (put ts dst v) x = ev G ts x := by
  cases x with
  | tmp t =>
    cases dst with
    | none => rfl
    | some d =>
      have : t ≠ d := fun e => h d rfl (by rw [e])
      simp only [ev, put, upd]
      rw [if_neg this]
  | _ => rfl

theorem Dr.d_put (R : Dr) (c : Cls) (i : Nat) (o : Oper) (ts : TS) (dst : Option Nat) (v : AVal) (h : ∀ d, dst = some d → d ∉ o.looksAt R.ops) : R.d c i o (put ts dst v) = R.d c i o ts := by
  have he : ∀ x, x ∈ o.op.operands → ev R.G (put ts dst v) x = ev R.G ts x := fun x hx => ev_put fun d hd hxd => h d hd (by
    subst hxd
    exact List.mem_append_left _ (List.mem_filterMap.2 ⟨.tmp d, by simpa using hx, rfl⟩))
  have hg : gd R.ops (put ts dst v) o = gd R.ops ts o := by
    unfold gd
    split
    · rfl
    · rename_i j want hg
      split
      · rfl
      · rename_i d hj
        have : put ts dst v d = ts d := by
          cases dst with
          | none => rfl
          | some d' =>
            simp only [put, upd]
            rw [if_neg]
            intro e
            refine h d' rfl (List.mem_append_right _ ?_)
            rw [hg]
            simp only [hj, ← e]
            simp
        rw [this]
  unfold Dr.d
  rw [hg]
  split
  · unfold Dr.act
    rw [den_congr he, callOf_congr he]
    have : R.eff i (ev R.G (put ts dst v)) o.op = R.eff i (ev R.G ts) o.op := by
      unfold Dr.eff opGo
      rw [den_congr he, callOf_congr he, specOf_congr he]
    rw [this]
  · rfl
  · rfl

theorem put_swap (ts : TS) (a b : Option Nat) (v u : AVal) (h : ∀ d, a = some d → b ≠ some d) : put (put ts a v) b u = put (put ts b u) a v := by
  cases a with
  | none => rfl
  | some i =>
    cases b with
    | none => rfl
    | some j =>
      have : i ≠ j := fun e => h i rfl (by rw [e])
      funext k
      simp only [put, upd]
      by_cases h1 : k = j
      · subst h1; simp [Ne.symm this]
      · by_cases h2 : k = i <;> simp [h1, h2, this]

/-! ### Two operations, either first -/
def D.quiet : D → Bool
  | .fail | .pure _ _ | .read _ _ _ | .alloc _ _ _ => true
  | _ => false
/-- There is always a block that is not yet there. -/
def FS (m : Heap) : Prop := ∃ n, ∀ b, n ≤ b → m b = none
theorem FS.upd {m : Heap} (h : FS m) (b : Nat) (x : ABlk) : FS (hupd m b x) := by
  obtain ⟨n, hn⟩ := h
  refine ⟨max n (b + 1), fun c hc => ?_⟩
  simp only [hupd]
  rw [if_neg (by omega)]
  exact hn c (by omega)
theorem quiet_next {d : D} {m : Heap} {K K' : AVal → Heap → Prop} (hq : d.quiet = true) (hf : FS m) (hk : ∀ v m', FS m' → K v m' → K' v m') (h : d.run m K) : d.run m K' := by
  cases d with
  | fail => exact h
  | pure c v => exact ⟨h.1, hk _ _ hf h.2⟩
  | read p c f =>
    simp only [D.run] at h ⊢
    split at h
    · exact ⟨h.1, hk _ _ hf h.2⟩
    · exact h
  | alloc c x mk => exact ⟨h.1, fun b hb => hk _ _ (hf.upd b x) (h.2 b hb)⟩
  | write p c f v => simp [D.quiet] at hq
  | eff T => simp [D.quiet] at hq

theorem hupd_ne {m : Heap} {b p : Nat} {x : ABlk} (h : p ≠ b) : hupd m b x p = m p := by simp [hupd, h]
theorem hupd_eq {m : Heap} {b : Nat} {x : ABlk} : hupd m b x b = some x := by simp [hupd]
theorem hupd_swap {m : Heap} {b c : Nat} {x y : ABlk} (h : b ≠ c) : hupd (hupd m b x) c y = hupd (hupd m c y) b x := by
  funext i
  simp only [hupd]
  by_cases h1 : i = c
  · subst h1; simp [Ne.symm h]
  · simp [h1]

theorem swap_qq {x y : D} {m : Heap} {K : AVal → AVal → Heap → Prop} (hx : x.quiet = true) (hy : y.quiet = true) (hf : FS m) (h : x.run m fun v m' => y.run m' fun u m'' => K v u m'') :
    y.run m fun u m' => x.run m' fun v m'' => K v u m'' := by
  have hpure : ∀ {c : Prop} {v : AVal}, x = .pure c v → y.run m fun u m' => x.run m' fun v m'' => K v u m'' := by
    rintro c v rfl
    exact quiet_next hy hf (fun u m' _ hk => ⟨h.1, hk⟩) h.2
  obtain ⟨n, hn⟩ := id hf
  cases x with
  | fail => exact h.elim
  | pure c v => exact hpure rfl
  | write p c f v => simp [D.quiet] at hx
  | eff T => simp [D.quiet] at hx
  | read p c f =>
    simp only [D.run] at h
    split at h
    · rename_i z hz
      obtain ⟨hc, h⟩ := h
      cases y with
      | fail => exact h.elim
      | pure c' u => exact ⟨h.1, by simp only [D.run, hz]; exact ⟨hc, h.2⟩⟩
      | write p c f v => simp [D.quiet] at hy
      | eff T => simp [D.quiet] at hy
      | read p' c' f' =>
        simp only [D.run] at h ⊢
        split at h
        · exact ⟨h.1, by simp only [hz]; exact ⟨hc, h.2⟩⟩
        · exact h.elim
      | alloc c' z' mk =>
        refine ⟨h.1, fun b hb => ?_⟩
        have hp : p ≠ b := fun e => by rw [e, hb] at hz; cases hz
        simp only [D.run, hupd_ne hp, hz]
        exact ⟨hc, h.2 b hb⟩
    · exact h.elim
  | alloc c z mk =>
    obtain ⟨hc, h⟩ := h
    cases y with
    | fail => exact (h n (hn n (Nat.le_refl _))).elim
    | pure c' u => exact ⟨(h n (hn n (Nat.le_refl _))).1, hc, fun b hb => (h b hb).2⟩
    | write p c f v => simp [D.quiet] at hy
    | eff T => simp [D.quiet] at hy
    | read p' c' f' =>
      have hp : m p' ≠ none := by
        intro hp
        have := h (max n (p' + 1)) (hn _ (by omega))
        simp only [D.run] at this
        rw [hupd_ne (by omega), hp] at this
        exact this
      have hne : ∀ b, m b = none → p' ≠ b := fun b hb e => hp (by rw [e, hb])
      simp only [D.run]
      cases hz : m p' with
      | none => exact absurd hz hp
      | some z' =>
        have h' : ∀ b, m b = none → c' z' ∧ K (mk b) (f' z') (hupd m b z) := by
          intro b hb
          have := h b hb
          simp only [D.run] at this
          rw [hupd_ne (hne b hb), hz] at this
          exact this
        exact ⟨(h' n (hn n (Nat.le_refl _))).1, hc, fun b hb => (h' b hb).2⟩
    | alloc c' z' mk' =>
      refine ⟨(h n (hn n (Nat.le_refl _))).1, fun b hb => ⟨hc, fun b' hb' => ?_⟩⟩
      have hne : b' ≠ b := fun e => by rw [e, hupd_eq] at hb'; cases hb'
      have hb'' : m b' = none := by rw [hupd_ne hne] at hb'; exact hb'
      have := (h b' hb'').2 b (by rw [hupd_ne (Ne.symm hne)]; exact hb)
      rw [hupd_swap hne] at this
      exact this

/-- What is only read, and what has an effect that leaves it. -/
def D.calmB (S : Nat → Prop) : D → Prop
  | .fail | .pure _ _ => True
  | .read p c _ => ∀ x, c x → S p
  | _ => False
theorem swap_ce {S : Nat → Prop} {x : D} {T : Heap → (AVal → Heap → Prop) → Prop} {m : Heap} {K : AVal → AVal → Heap → Prop} (hx : x.calmB S)
    (hT : ∀ m K K', (∀ v m', (∀ p, S p → m' p = m p) → K v m' → K' v m') → T m K → T m K') (h : x.run m fun v m' => T m' fun u m'' => K v u m'') :
    T m fun u m' => x.run m' fun v m'' => K v u m'' := by
  cases x with
  | fail => exact h.elim
  | pure c v => exact hT _ _ _ (fun u m' _ hk => ⟨h.1, hk⟩) h.2
  | read p c f =>
    simp only [D.run] at h
    split at h
    · rename_i z hz
      refine hT _ _ _ (fun u m' hs hk => ?_) h.2
      simp only [D.run]
      rw [hs p (hx z h.1), hz]
      exact ⟨h.1, hk⟩
    · exact h.elim
  | alloc c x mk => exact hx.elim
  | write p c f v => exact hx.elim
  | eff T => exact hx.elim

theorem plain_quiet (d : D) : (plain d).quiet = true := by cases d <;> rfl
theorem calm_quiet (S : Nat → Prop) (d : D) : (calm S d).quiet = true := by cases d <;> rfl
theorem calm_calm (S : Nat → Prop) (d : D) : (calm S d).calmB S := by cases d <;> first | trivial | exact fun _ h => h.1
theorem Dr.d_quiet (R : Dr) {c : Cls} (hc : c ≠ .e) (i : Nat) (o : Oper) (ts : TS) : (R.d c i o ts).quiet = true := by
  unfold Dr.d
  split
  · unfold Dr.act
    cases c with
    | q => exact plain_quiet _
    | r us => exact calm_quiet _ _
    | k => simp only; cases callOf (ev R.G ts) o.op <;> rfl
    | e => exact absurd rfl hc
  · rfl
  · rfl
/-- May an effect go ahead of it? -/
def Cls.lets (c : Cls) (j : Nat) : Bool := match c with
  | .r us => us.contains j
  | .k => true
  | _ => false
theorem Dr.d_calm (R : Dr) {c : Cls} {j : Nat} (hc : c.lets j = true) (i : Nat) (o : Oper) (ts : TS) : (R.d c i o ts).calmB (R.S j) := by
  unfold Dr.d
  split
  · unfold Dr.act
    cases c with
    | r us =>
      simp only [Cls.lets, List.contains_iff_mem] at hc
      have := calm_calm (fun p => ∀ u, u ∈ us → R.S u p) (den R.P (ev R.G ts) o.op)
      revert this
      simp only
      generalize calm _ _ = d
      intro this
      cases d <;> first | trivial | exact fun x hx => this x hx j hc | exact this
    | k => simp only; cases callOf (ev R.G ts) o.op <;> trivial
    | q => cases hc
    | e => cases hc
  · trivial
  · trivial

/-- May y be taken ahead of x? -/
def okPair (ops : Array Oper) (x y : Nat × Cls) : Bool := match ops[x.1]?, ops[y.1]? with
  | some a, some b => a.apart ops b && decide (x.2 ≠ .e) && (decide (y.2 ≠ .e) || x.2.lets y.1)
  | _, _ => false

theorem Dr.swap (R : Dr) {x y : Nat × Cls} (h : okPair R.ops x y = true) {ts : TS} {m : Heap} {K : TS → Heap → Prop} (hf : FS m)
    (hr : R.step x ts m fun ts1 m1 => R.step y ts1 m1 K) : R.step y ts m fun ts1 m1 => R.step x ts1 m1 K := by
  obtain ⟨i, c⟩ := x
  obtain ⟨j, c'⟩ := y
  unfold okPair at h
  simp only at h
  cases ha : R.ops[i]? with
  | none => rw [ha] at h; simp at h
  | some a =>
    cases hb : R.ops[j]? with
    | none => rw [ha, hb] at h; simp at h
    | some b =>
      rw [ha, hb] at h
      simp only [Bool.and_eq_true, decide_eq_true_eq, Bool.or_eq_true] at h
      obtain ⟨⟨h1, h2⟩, h3⟩ := h
      obtain ⟨a1, a2, a3⟩ := Oper.apart_spec h1
      simp only [Dr.step, ha, hb] at hr ⊢
      simp only [R.d_put c' j b ts a.dst _ a1] at hr
      simp only [R.d_put c i a ts b.dst _ a3]
      have e : ∀ v u, put (put ts b.dst u) a.dst v = put (put ts a.dst v) b.dst u := fun v u => (put_swap ts a.dst b.dst v u a2).symm
      simp only [e]
      by_cases hc' : c' = .e
      · subst hc'
        have hc : c.lets j = true := by rcases h3 with h3 | h3 <;> simp_all
        have hcalm := R.d_calm hc i a ts
        have hcase : R.d .e j b ts = R.eff j (ev R.G ts) b.op ∨ R.d .e j b ts = .pure True (.tuple []) ∨ R.d .e j b ts = .fail := by
          unfold Dr.d
          split
          · exact .inl rfl
          · exact .inr (.inl rfl)
          · exact .inr (.inr rfl)
        rcases hcase with hd | hd | hd
        · rw [hd] at hr ⊢
          refine swap_ce (S := R.S j) (K := fun v u m' => K (put (put ts a.dst v) b.dst u) m') hcalm ?_ hr
          intro m K K' hk hh
          exact opGo_mono (fun v m' hv => ⟨hv.1, hk v m' hv.1.2 hv.2⟩) hh
        · rw [hd] at hr ⊢
          exact swap_qq (K := fun v u m' => K (put (put ts a.dst v) b.dst u) m') (R.d_quiet h2 i a ts) rfl hf hr
        · rw [hd] at hr ⊢
          exact swap_qq (K := fun v u m' => K (put (put ts a.dst v) b.dst u) m') (R.d_quiet h2 i a ts) rfl hf hr
      · exact swap_qq (K := fun v u m' => K (put (put ts a.dst v) b.dst u) m') (R.d_quiet h2 i a ts) (R.d_quiet hc' j b ts) hf hr

theorem Dr.step_next (R : Dr) {x : Nat × Cls} (hx : x.2 ≠ .e) {ts : TS} {m : Heap} {K K' : TS → Heap → Prop} (hf : FS m) (hk : ∀ ts' m', FS m' → K ts' m' → K' ts' m') (h : R.step x ts m K) : R.step x ts m K' := by
  unfold Dr.step at h ⊢
  split
  · rename_i o ho
    rw [ho] at h
    exact quiet_next (R.d_quiet hx _ _ _) hf (fun v m' hf' hv => hk _ _ hf' hv) h
  · simp_all

theorem Dr.bubble (R : Dr) {y : Nat × Cls} {rest : List (Nat × Cls)} {K : TS → Heap → Prop} : ∀ (l : List (Nat × Cls)) (ts : TS) (m : Heap), (∀ x, x ∈ l → okPair R.ops x y = true) → FS m →
    R.go (l ++ y :: rest) ts m K → R.go (y :: (l ++ rest)) ts m K
  | [], ts, m, _, _, h => h
  | x :: l, ts, m, hl, hf, h => by
    have hx := hl x (by simp)
    have hne : x.2 ≠ .e := by
      unfold okPair at hx
      split at hx
      · simp only [Bool.and_eq_true, decide_eq_true_eq] at hx; exact hx.1.2
      · simp at hx
    have h1 : R.step x ts m fun ts' m' => R.go (l ++ y :: rest) ts' m' K := h
    have h2 : R.step x ts m fun ts' m' => R.step y ts' m' fun ts'' m'' => R.go (l ++ rest) ts'' m'' K :=
      R.step_next hne hf (fun ts' m' hf' hg => R.bubble l ts' m' (fun z hz => hl z (by simp [hz])) hf' hg) h1
    exact R.swap hx hf h2

end Go.Proofs.Ytcdhihoghkkahaa.Ab
