/- A drawn region, reckoned; what a body ends in. -/
import Derived.Test.YtcdhihoghkkahaaAb17
set_option linter.all false
namespace Go.Proofs.Ytcdhihoghkkahaa.Ab
open Go

/-- An operation of a drawn region, with all that its walk needs. -/
structure DOp where
  i : Nat
  c : Cls
  d : Option Nat
  g : Option (Option Nat × Bool)
  op : Op
def lookD (ops : Array Oper) (x : Nat × Cls) : DOp := match ops[x.1]? with
  | some o => ⟨x.1, x.2, o.dst, o.guard.map fun g => ((ops[g.1]?).bind (·.dst), g.2), o.op⟩
  | none => ⟨0, .q, none, none, .panic (.tmp 0)⟩

/-- What an effect must leave. -/
def Stab (S : Nat → Prop) (m m' : Heap) : Prop := ∀ p, S p → m' p = m p
section
variable (P : Program) (G : Nat → AVal) (qv : Nat → AVal) (S0 : Nat → Prop) (S : Nat → Nat → Prop) (m0 : Heap)

def callQ (f : AVal) (args : List AVal) (v : AVal) : Prop := match f with
  | .func (.func g) fs cs => QCall P G S0 m0 g (fs ++ args ++ cs) v
  | _ => False
def kA (e : Operand → AVal) (v : AVal) : Op → Prop
  | .call c => match c.callee with
    | .value f => callQ P G S0 m0 (e f) (c.args.toList.map e) v
    | _ => False
  | _ => False
def actE (x : DOp) (ts : TS) (m : Heap) (K : AVal → Heap → Prop) : Prop := match x.c with
  | .q => (plain (den P (ev G ts) x.op)).run m K
  | .r us => (calm (fun p => ∀ u, u ∈ us → S u p) (den P (ev G ts) x.op)).run m K
  | .k => kA P G S0 m0 (ev G ts) (qv x.i) x.op ∧ K (qv x.i) m
  | .e => opGo P G (ev G ts) x.op m fun v m' => (Stab S0 m m' ∧ Stab (S x.i) m m') ∧ K v m'
/-- Is it carried out? -/
def gA (g : Option (Option Nat × Bool)) (ts : TS) (yes no : Prop) : Prop := match g with
  | none => yes
  | some (none, _) => no
  | some (some d, want) => match ts d with
    | .bool b => (b = want → yes) ∧ (b = !want → no)
    | .tuple _ => no
    | _ => False
def goE : List DOp → TS → Heap → (TS → Heap → Prop) → Prop
  | [], ts, m, K => K ts m
  | x :: rest, ts, m, K => gA x.g ts (actE P G qv S0 S m0 x ts m fun v m' => goE rest (put ts x.d v) m' K) (goE rest (put ts x.d (.tuple [])) m K)

theorem act_of {x : DOp} {ops : Array Oper} {ts : TS} {m : Heap} {K : AVal → Heap → Prop} (h : actE P G qv S0 S m0 x ts m K) : ((Dr.mk P G ops qv S0 S m0).act x.c x.i (ev G ts) x.op).run m K := by
  unfold actE at h
  unfold Dr.act
  obtain ⟨i, c, d, g, op⟩ := x
  cases c with
  | q => exact h
  | r us => exact h
  | e => exact h
  | k =>
    simp only at h ⊢
    obtain ⟨h1, h2⟩ := h
    cases op <;> simp only [kA] at h1
    rename_i c
    simp only [callOf]
    split at h1
    · rename_i f hf
      unfold callQ at h1
      split at h1
      · rename_i g' fs cs hg
        simp only [hf, hg, Dr.qc]
        exact ⟨h1, h2⟩
      · exact h1.elim
    · exact h1.elim

theorem go_of {ops : Array Oper} {K : TS → Heap → Prop} : ∀ (ord : List (Nat × Cls)) (ts : TS) (m : Heap), (∀ x, x ∈ ord → x.1 < ops.size) → goE P G qv S0 S m0 (ord.map (lookD ops)) ts m K → (Dr.mk P G ops qv S0 S m0).go ord ts m K ∧ True
  | [], ts, m, _, h => ⟨h, trivial⟩
  | x :: rest, ts, m, hlt, h => by
    have hx : x.1 < ops.size := hlt x (by simp)
    have ho : ops[x.1]? = some ops[x.1] := Array.getElem?_eq_getElem hx
    generalize ops[x.1] = o at ho
    have hl : lookD ops x = ⟨x.1, x.2, o.dst, o.guard.map fun g => ((ops[g.1]?).bind (·.dst), g.2), o.op⟩ := by simp only [lookD, ho]
    simp only [List.map_cons, goE, hl] at h
    refine ⟨?_, trivial⟩
    show Dr.step _ x ts m _
    unfold Dr.step
    simp only [ho]
    unfold Dr.d gd
    have rec' : ∀ ts m, goE P G qv S0 S m0 (rest.map (lookD ops)) ts m K → (Dr.mk P G ops qv S0 S m0).go rest ts m K := fun ts m h => (go_of rest ts m (fun y hy => hlt y (by simp [hy])) h).1
    have hact : actE P G qv S0 S m0 ⟨x.1, x.2, o.dst, o.guard.map fun g => ((ops[g.1]?).bind (·.dst), g.2), o.op⟩ ts m (fun v m' => goE P G qv S0 S m0 (rest.map (lookD ops)) (put ts o.dst v) m' K) →
        ((Dr.mk P G ops qv S0 S m0).act x.2 x.1 (ev G ts) o.op).run m fun v m' => (Dr.mk P G ops qv S0 S m0).go rest (put ts o.dst v) m' K := by
      intro ha
      have ha' := act_of P G qv S0 S m0 (ops := ops) ha
      simp only at ha'
      have mono : ∀ (d : D), d.Mono → d.run m (fun v m' => goE P G qv S0 S m0 (rest.map (lookD ops)) (put ts o.dst v) m' K) → d.run m fun v m' => (Dr.mk P G ops qv S0 S m0).go rest (put ts o.dst v) m' K :=
        fun d hd hr => hd m _ _ (fun v m' h => rec' _ _ h) hr
      refine mono _ ?_ ha'
      unfold Dr.act
      cases x.2 with
      | q => exact D.Mono.of (by cases den P (ev G ts) o.op <;> rfl)
      | r us => exact D.Mono.of (by cases den P (ev G ts) o.op <;> rfl)
      | k => exact D.Mono.of (by simp only; cases callOf (ev G ts) o.op <;> rfl)
      | e => intro m K K' hk hr; exact opGo_mono (fun v m' hv => ⟨hv.1, hk v m' hv.2⟩) hr
    cases hg : o.guard with
    | none => simp only [hg, Option.map_none, gA] at h ⊢; exact hact (by simpa only [hg, Option.map_none] using h)
    | some g =>
      obtain ⟨j, want⟩ := g
      simp only [hg, Option.map_some, gA] at h ⊢
      cases hj : (ops[j]?).bind (·.dst) with
      | none => simp only [hj] at h ⊢; exact ⟨trivial, rec' _ _ h⟩
      | some d =>
        simp only [hj] at h ⊢
        cases hd : ts d <;> simp only [hd] at h ⊢ <;> try exact h.elim
        · rename_i b
          by_cases hb : b = want
          · subst hb
            simp only [beq_self_eq_true]
            exact hact (by simpa only [hg, Option.map_some, hj] using h.1 rfl)
          · have hb' : b = !want := by cases b <;> cases want <;> simp_all
            have hbf : (b == want) = false := by simpa using hb
            rw [hbf]
            exact ⟨trivial, rec' _ _ (h.2 hb')⟩
        · exact ⟨trivial, rec' _ _ h⟩
end

/-- A drawn region, walked in one order that stands for all, its operations laid open. -/
theorem awp_drawnE {P : Program} {G : Nat → AVal} {N : Nat} {r : Option Nat} {id : Nat} {ops : Array Oper} {Q : Exit → TS → Heap → Prop} {ts : TS} {m : Heap} (ord : List (Nat × Cls)) (qv : Nat → AVal) (S0 : Nat → Prop) (S : Nat → Nat → Prop)
    (hm : P.follows .mixedOrders = true) (hc : chk ops N ord = true) (h : goE P G qv S0 S m (ord.map (lookD ops)) ts m (Q .normal)) : AWP P G N r (.region id ops true) Q ts m := by
  refine awp_drawn ord qv S0 S hm hc (go_of P G qv S0 S m ord ts m (fun x hx => ?_) h).1
  unfold chk chkWith at hc
  simp only [Bool.and_eq_true, List.all_eq_true, decide_eq_true_eq] at hc
  exact hc.1.1.2 x hx

section
variable {P : Program} {G : Nat → AVal} {qv : Nat → AVal} {S0 : Nat → Prop} {S : Nat → Nat → Prop} {m0 : Heap}
@[congr] theorem goE_cong {l l' : List DOp} {K : TS → Heap → Prop} {ts ts' : TS} {m m' : Heap} (h0 : mk l = l') (h1 : ts = ts') (h2 : m = m') : goE P G qv S0 S m0 l ts m K = goE P G qv S0 S m0 l' ts' m' K := by rw [mk_id] at h0; rw [h0, h1, h2]
@[congr] theorem gA_cong {g g' : Option (Option Nat × Bool)} {ts ts' : TS} {yes no : Prop} (h : mk g = g') (h' : ts = ts') : gA g ts yes no = gA g' ts' yes no := by rw [mk_id] at h; rw [h, h']
theorem goE_nil (ts : TS) (m : Heap) (K : TS → Heap → Prop) : goE P G qv S0 S m0 [] ts m K = K ts m := rfl
theorem goE_q (i : Nat) (d : Option Nat) (op : Op) (rest : List DOp) (ts : TS) (m : Heap) (K : TS → Heap → Prop) :
    goE P G qv S0 S m0 (⟨i, .q, d, none, op⟩ :: rest) ts m K = (plain (den P (ev G ts) op)).run m fun v m' => goE P G qv S0 S m0 rest (put ts d v) m' K := rfl
/-- Whether all these effects leave a block. -/
def allS (S : Nat → Nat → Prop) : List Nat → Nat → Prop
  | [], _ => True
  | u :: us, p => S u p ∧ allS S us p
theorem allS_eq (S : Nat → Nat → Prop) : ∀ (us : List Nat) (p : Nat), (∀ u, u ∈ us → S u p) = allS S us p
  | [], p => by simp [allS]
  | u :: us, p => by rw [allS, ← allS_eq S us p]; simp
theorem allS_nil (p : Nat) : allS S [] p = True := rfl
theorem allS_cons (u : Nat) (us : List Nat) (p : Nat) : allS S (u :: us) p = (S u p ∧ allS S us p) := rfl
theorem goE_r (us : List Nat) (i : Nat) (d : Option Nat) (op : Op) (rest : List DOp) (ts : TS) (m : Heap) (K : TS → Heap → Prop) :
    goE P G qv S0 S m0 (⟨i, .r us, d, none, op⟩ :: rest) ts m K = (calm (allS S us) (den P (ev G ts) op)).run m fun v m' => goE P G qv S0 S m0 rest (put ts d v) m' K := by
  have : allS S us = fun p => ∀ u, u ∈ us → S u p := by funext p; exact (allS_eq S us p).symm
  rw [this]; rfl
theorem goE_e (i : Nat) (d : Option Nat) (op : Op) (rest : List DOp) (ts : TS) (m : Heap) (K : TS → Heap → Prop) :
    goE P G qv S0 S m0 (⟨i, .e, d, none, op⟩ :: rest) ts m K = opGo P G (ev G ts) op m fun v m' => Need (Stab S0 m m' ∧ Stab (S i) m m') (goE P G qv S0 S m0 rest (put ts d v) m' K) := rfl
theorem goE_k (i : Nat) (d : Option Nat) (f : Operand) (as : Array Operand) (tys : Array TypeId) (rest : List DOp) (ts : TS) (m : Heap) (K : TS → Heap → Prop) :
    goE P G qv S0 S m0 (⟨i, .k, d, none, .call { callee := .value f, args := as, argTypes := tys }⟩ :: rest) ts m K =
      (callQ P G S0 m0 (ev G ts f) (as.toList.map (ev G ts)) (qv i) ∧ goE P G qv S0 S m0 rest (put ts d (qv i)) m K) := rfl
theorem goE_gq (i : Nat) (c : Cls) (d g : Option Nat) (want : Bool) (op : Op) (rest : List DOp) (ts : TS) (m : Heap) (K : TS → Heap → Prop) :
    goE P G qv S0 S m0 (⟨i, c, d, some (g, want), op⟩ :: rest) ts m K = gA (some (g, want)) ts (goE P G qv S0 S m0 (⟨i, c, d, none, op⟩ :: rest) ts m K) (goE P G qv S0 S m0 rest (put ts d (.tuple [])) m K) := rfl
/-- A guard's value. -/
def gV (v : AVal) (want : Bool) (yes no : Prop) : Prop := match v with
  | .bool b => (b = want → yes) ∧ (b = !want → no)
  | .tuple _ => no
  | _ => False
@[congr] theorem gV_cong {v v' : AVal} {want : Bool} {yes no : Prop} (h : mk v = v') : gV v want yes no = gV v' want yes no := by rw [mk_id] at h; rw [h]
theorem gA_at (d : Nat) (want : Bool) (ts : TS) (yes no : Prop) : gA (some (some d, want)) ts yes no = gV (ts d) want yes no := rfl
theorem gV_tt (yes no : Prop) : gV (.bool true) true yes no = yes := by simp [gV]
theorem gV_tf (yes no : Prop) : gV (.bool true) false yes no = no := by simp [gV]
theorem gV_ft (yes no : Prop) : gV (.bool false) true yes no = no := by simp [gV]
theorem gV_ff (yes no : Prop) : gV (.bool false) false yes no = yes := by simp [gV]
theorem gV_skip (l : List AVal) (want : Bool) (yes no : Prop) : gV (.tuple l) want yes no = no := rfl
theorem gV_true (b : Bool) (yes no : Prop) (h1 : b = true → yes) (h2 : b = false → no) : gV (.bool b) true yes no := ⟨h1, h2⟩
theorem gV_false (b : Bool) (yes no : Prop) (h1 : b = false → yes) (h2 : b = true → no) : gV (.bool b) false yes no := ⟨h1, h2⟩
theorem runOps_guard {N : Nat} (ops : Array Oper) (d : Option Nat) (op : Op) (t : TypeId) (pos : String) (af : Array Edge) (j : Nat) (want : Bool) (rest : List Oper) (ts : TS) (m : Heap) (K : TS → Heap → Prop) :
    runOps P G N ops ({ dst := d, op := op, type := t, pos := pos, after := af, guard := some (j, want) } :: rest) ts m K =
      (dstOk N d ∧ gA (some ((ops[j]?).bind (·.dst), want)) ts (opGo P G (ev G ts) op m fun v m' => runOps P G N ops rest (put ts d v) m' K) (runOps P G N ops rest (put ts d (.tuple [])) m K)) := by
  simp only [runOps, wantA, gA]
  cases (ops[j]?).bind (·.dst) with
  | none => rfl
  | some d' => simp only; cases ts d' <;> rfl
theorem hupd_over {m : Heap} {b c : Nat} {x y z : ABlk} (h : (b = c) = False) : hupd (hupd (hupd m b x) c y) b z = hupd (hupd m b z) c y := by
  have hn : b ≠ c := fun e => by rw [e] at h; simp at h
  rw [hupd_swap (Ne.symm hn), hupd_hupd]
theorem callQ_func (g : FuncId) (fs cs args : List AVal) (v : AVal) : callQ P G S0 m0 (.func (.func g) fs cs) args v = QCall P G S0 m0 g (fs ++ args ++ cs) v := rfl
@[congr] theorem callQ_cong {f f' : AVal} {args args' : List AVal} {v : AVal} (h0 : mk f = f') (h1 : args = args') : callQ P G S0 m0 f args v = callQ P G S0 m0 f' args' v := by rw [mk_id] at h0; rw [h0, h1]
@[congr] theorem QCall_cong {f : FuncId} {args args' : List AVal} {v : AVal} (h1 : mk args = args') : QCall P G S0 m0 f args v = QCall P G S0 m0 f args' v := by rw [mk_id] at h1; rw [h1]
theorem plain_pure (c : Prop) (v : AVal) : plain (.pure c v) = .pure c v := rfl
theorem plain_read (p : Nat) (c : ABlk → Prop) (f : ABlk → AVal) : plain (.read p c f) = .read p c f := rfl
theorem plain_alloc (c : Prop) (x : ABlk) (mk : Nat → AVal) : plain (.alloc c x mk) = .alloc c x mk := rfl
theorem calm_pure (S : Nat → Prop) (c : Prop) (v : AVal) : calm S (.pure c v) = .pure c v := rfl
theorem calm_read (S : Nat → Prop) (p : Nat) (c : ABlk → Prop) (f : ABlk → AVal) : calm S (.read p c f) = .read p (fun x => S p ∧ c x) f := rfl
theorem Stab.refl (S : Nat → Prop) (m : Heap) : Stab S m m = True := by simp [Stab]
theorem Stab.upd {S : Nat → Prop} {m : Heap} {b : Nat} {x : ABlk} (h : S b = False) : Stab S m (hupd m b x) = True := by
  simp only [eq_iff_iff, iff_true]
  intro p hp
  exact hupd_ne (fun e => by rw [e, h] at hp; exact hp)

theorem Stab.upd2 {S : Nat → Prop} {m : Heap} {b : Nat} {x y : ABlk} (h : S b = False) : Stab S (hupd m b x) (hupd m b y) = True := by
  simp only [eq_iff_iff, iff_true]
  intro p hp
  have hn : p ≠ b := fun e => by rw [e, h] at hp; exact hp
  rw [hupd_ne hn, hupd_ne hn]

/-! What den comes to -/
variable {e : Operand → AVal}
theorem den_move (x : Operand) : den P e (.move x) = .pure True (e x) := rfl
theorem den_assign (x : Operand) : den P e (.assign x) = .pure True (e x) := rfl
theorem den_pick (c a b : Operand) : den P e (.pick c a b) = apk (e c) (e a) (e b) := rfl
theorem den_alloc (t : TypeId) : den P e (.alloc t) = aalloc P t := rfl
theorem den_box (t : TypeId) (v : Operand) : den P e (.box t v) = abox t (e v) := rfl
theorem den_build (t : TypeId) (ps : Array (Nat × Operand)) : den P e (.build t ps) = abuild P t (ps.toList.map fun p => (p.1, e p.2)) := rfl
theorem den_buildSlice (t : TypeId) (n : Nat) (ps : Array (Nat × Operand)) : den P e (.buildSlice t n ps) = abuildSlice P t n (ps.toList.map fun p => (p.1, e p.2)) := rfl
theorem den_load (t : TypeId) (a : Operand) : den P e (.load t a) = aload P t (e a) := rfl
theorem den_nilCheck (x : Operand) : den P e (.nilCheck x) = anil (e x) := rfl
theorem den_binOp (op : BinOp) (t : TypeId) (x y : Operand) (t' : TypeId) : den P e (.binOp op t x y t') = abin P op t (e x) (e y) := rfl
theorem den_unOp (op : UnOp) (t : TypeId) (x : Operand) : den P e (.unOp op t x) = aun op (e x) := rfl
theorem den_convert (s d : TypeId) (x : Operand) : den P e (.convert s d x) = aconv P s d (e x) := rfl
theorem den_iface (t : TypeId) (x : Operand) : den P e (.makeInterface t x) = aiface P t (e x) := rfl
theorem den_makeFunc (fn : Fn) (fs cs : Array Operand) : den P e (.makeFunc fn fs cs) = .pure True (.func fn (fs.toList.map e) (cs.toList.map e)) := rfl
theorem den_makeSlice (t : TypeId) (l c : Operand) : den P e (.makeSlice t l c) = amake P t (e l) (e c) := rfl
theorem den_slice (t : TypeId) (x : Operand) (lo hi mx : Option Operand) : den P e (.slice t x lo hi mx) = aslice P t (e x) (lo.map e) (hi.map e) (mx.map e) := rfl
theorem den_fieldAddr (t : TypeId) (x : Operand) (f : Nat) : den P e (.fieldAddr t x f) = afieldAddr P t f (e x) := rfl
theorem den_field (t : TypeId) (x : Operand) (f : Nat) : den P e (.field t x f) = afield P t f (e x) := rfl
theorem den_indexAddr (t : TypeId) (x i : Operand) : den P e (.indexAddr t x i) = aindexAddr P t (e x) (e i) := rfl
theorem den_index (t : TypeId) (x i : Operand) : den P e (.index t x i) = aindex P t (e x) (e i) := rfl
theorem den_extract (x : Operand) (i : Nat) : den P e (.extract x i) = aextract i (e x) := rfl
theorem den_builtin (b : Builtin) (as : Array Operand) (ts : Array TypeId) : den P e (.call { callee := .builtin b, args := as, argTypes := ts }) = abuiltin P b ts.toList (as.toList.map e) := rfl

/-- What must hold where a body is left, its results given. -/
def bodyR (P : Program) (rs : List ResultVar) (K : AVal → Heap → Prop) : Exit → TS → Heap → Prop
  | .normal, ts, m | .ret, ts, m => resGo P rs ts m fun l => K (mkRes l) m
  | _, _, _ => False
theorem bodyR_normal (rs : List ResultVar) (K : AVal → Heap → Prop) (ts : TS) (m : Heap) : bodyR P rs K .normal ts m = resGo P rs ts m fun l => K (mkRes l) m := rfl
theorem bodyR_ret (rs : List ResultVar) (K : AVal → Heap → Prop) (ts : TS) (m : Heap) : bodyR P rs K .ret ts m = resGo P rs ts m fun l => K (mkRes l) m := rfl
/-- A function's contract from its body, the body's parts given. -/
theorem callWP_body {f : FuncId} {fn : Func} {c : Code} {N : Nat} {rs : List ResultVar} {args : List AVal} {m : Heap} {K : AVal → Heap → Prop} (hf : P.funcs[f]? = some fn) (hb : fn.body = some c) (hN : fn.ntmps = N) (hr : fn.results.toList = rs)
    (he : enters P f = true) (hn : args.length ≤ N) (h : run P G N none c (bodyR P rs (Part K)) (fun t => args.getD t (.tuple [])) m) : CallWP P G f args m K := by
  subst hN hr
  refine callWP_fn hf hb he hn ?_
  have e : bodyR P fn.results.toList (Part K) = bodyA P fn (Part K) := by funext x ts m; cases x <;> rfl
  rw [← e]; exact h

theorem CallWP.to {f : FuncId} {args : List AVal} {m : Heap} {v : AVal} {K : AVal → Heap → Prop} (h : CallWP P G f args m fun v' m' => v' = v ∧ m' = m) (hk : K v m) : CallWP P G f args m K := h.mono (by rintro _ _ ⟨rfl, rfl⟩; exact hk)
theorem isCall {f : FuncId} {args : List AVal} {m : Heap} {K : AVal → Heap → Prop} (h : CallWP P G f args m K) : CallWP P G f args m K := h
theorem isAWP {N : Nat} {r : Option Nat} {c : Code} {Q : Exit → TS → Heap → Prop} {ts : TS} {m : Heap} (h : AWP P G N r c Q ts m) : AWP P G N r c Q ts m := h
theorem isPart {K : AVal → Heap → Prop} {v : AVal} {m : Heap} (h : Part K v m) : Part K v m := h

/-! What a body ends in -/
theorem bodyA_normal (fn : Func) (K : AVal → Heap → Prop) (ts : TS) (m : Heap) : bodyA P fn K .normal ts m = resGo P fn.results.toList ts m fun l => K (mkRes l) m := rfl
theorem bodyA_ret (fn : Func) (K : AVal → Heap → Prop) (ts : TS) (m : Heap) : bodyA P fn K .ret ts m = resGo P fn.results.toList ts m fun l => K (mkRes l) m := rfl
theorem resGo_nil (ts : TS) (m : Heap) (k : List AVal → Prop) : resGo P [] ts m k = k [] := rfl
/-- Where a pointer points. -/
def ptrA (v : AVal) (k : Nat → Nat → Prop) : Prop := match v with
  | .ptr b o => k b o
  | _ => False
@[congr] theorem ptrA_cong {v v' : AVal} {k : Nat → Nat → Prop} (h : mk v = v') : ptrA v k = ptrA v' k := by rw [mk_id] at h; rw [h]
theorem ptrA_ptr (b o : Nat) (k : Nat → Nat → Prop) : ptrA (.ptr b o) k = k b o := rfl
theorem resGo_cell (x t : Nat) (rest : List ResultVar) (ts : TS) (m : Heap) (k : List AVal → Prop) :
    resGo P (.cell x t :: rest) ts m k = ptrA (ts x) fun b o => (aload P t (.ptr b o)).run m fun v _ => resGo P rest ts m fun l => k (v :: l) := by
  simp only [resGo]
  generalize ts x = v
  cases v <;> try rfl
  rename_i b o
  simp only [ptrA, aload]
  cases tk P t with
  | none => rfl
  | some p =>
    obtain ⟨a, n⟩ := p
    simp only [D.run]
    cases m b with
    | none => rfl
    | some y => cases y <;> simp
theorem resGo_tmp (t : Nat) (rest : List ResultVar) (ts : TS) (m : Heap) (k : List AVal → Prop) : resGo P (.tmp t :: rest) ts m k = resGo P rest ts m fun l => k (ts t :: l) := rfl
end
end Go.Proofs.Ytcdhihoghkkahaa.Ab
