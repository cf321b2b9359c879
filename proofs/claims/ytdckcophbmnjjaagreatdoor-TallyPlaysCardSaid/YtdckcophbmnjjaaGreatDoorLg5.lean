/- How the walk is reckoned: one rule an operation, and what stands behind is not looked at before its time. A drawn region, reckoned; what a body ends in. The rules of the reckoning, under one name. -/
import Derived.Test.YtdckcophbmnjjaaGreatDoorLg4
import Derived.Attr
set_option linter.all false
namespace Go.Proofs.YtdckcophbmnjjaaGreatDoor.Ab
open Go

section
variable {P : Program} {G : Nat → AVal} {N : Nat} {r : Option Nat}

/-- A mark: what bears it is looked at; what stands beside it is not. -/
def mk {α : Sort _} (x : α) : α := if True then x else x
theorem mk_id {α : Sort _} (x : α) : mk x = x := if_pos trivial
/-- What must hold ahead of what stands behind; that is not looked at before. -/
def Need (c k : Prop) : Prop := c ∧ k
@[congr] theorem Need_cong {c c' k : Prop} (h : mk c = c') : Need c k = Need c' k := by rw [mk_id] at h; rw [h]
theorem Need_true (k : Prop) : Need True k = k := by simp [Need]
theorem Need.intro {c k : Prop} (h : c) (h' : k) : Need c k := ⟨h, h'⟩
/-- Whatever block is new. -/
def Al (m : Heap) (F : Nat → Prop) : Prop := ∀ b, m b = none → F b
theorem Al.intro {m : Heap} {F : Nat → Prop} (h : ∀ b, m b = none → F b) : Al m F := h
@[congr] theorem Al.cong {m m' : Heap} {F : Nat → Prop} (h : mk m = m') : Al m F = Al m' F := by rw [mk_id] at h; rw [h]
@[congr] theorem run_cong {c : Code} {Q : Exit → TS → Heap → Prop} {ts ts' : TS} {m m' : Heap} (h1 : mk ts = ts') (h2 : m = m') : run P G N r c Q ts m = run P G N r c Q ts' m' := by rw [mk_id] at h1; rw [h1, h2]
@[congr] theorem runOps_cong {ops : Array Oper} {l : List Oper} {K : TS → Heap → Prop} {ts ts' : TS} {m m' : Heap} (h1 : mk ts = ts') (h2 : m = m') : runOps P G N ops l ts m K = runOps P G N ops l ts' m' K := by rw [mk_id] at h1; rw [h1, h2]
@[congr] theorem D.run_cong {d d' : D} {K : AVal → Heap → Prop} {m m' : Heap} (h1 : mk d = d') (h2 : m = m') : d.run m K = d'.run m' K := by rw [mk_id] at h1; rw [h1, h2]
@[congr] theorem AWP_cong {c : Code} {Q : Exit → TS → Heap → Prop} {ts : TS} {m m' : Heap} (h2 : mk m = m') : AWP P G N r c Q ts m = AWP P G N r c Q ts m' := by rw [mk_id] at h2; rw [h2]
@[congr] theorem CallWP_cong {f : FuncId} {args args' : List AVal} {K : AVal → Heap → Prop} {m m' : Heap} (h1 : mk args = args') (h2 : m = m') : CallWP P G f args m K = CallWP P G f args' m' K := by rw [mk_id] at h1; rw [h1, h2]

/-! Code -/
theorem run_skip (Q : Exit → TS → Heap → Prop) (ts : TS) (m : Heap) : run P G N r .skip Q ts m = Q .normal ts m := rfl
theorem run_seq (a b : Code) (Q : Exit → TS → Heap → Prop) (ts : TS) (m : Heap) : run P G N r (.seq a b) Q ts m = run P G N r a (thenA (fun ts' m' => run P G N r b Q ts' m') Q) ts m := rfl
theorem run_plain (id : Nat) (ops : Array Oper) (Q : Exit → TS → Heap → Prop) (ts : TS) (m : Heap) : run P G N r (.region id ops false) Q ts m = runOps P G N ops ops.toList ts m (Q .normal) := rfl
theorem run_drawn (id : Nat) (ops : Array Oper) (Q : Exit → TS → Heap → Prop) (ts : TS) (m : Heap) : run P G N r (.region id ops true) Q ts m = AWP P G N r (.region id ops true) Q ts m := rfl
theorem run_loop (c : Code) (Q : Exit → TS → Heap → Prop) (ts : TS) (m : Heap) : run P G N r (.loop c) Q ts m = AWP P G N r (.loop c) Q ts m := rfl
theorem run_block (id : Nat) (c : Code) (Q : Exit → TS → Heap → Prop) (ts : TS) (m : Heap) : run P G N r (.block id c) Q ts m = run P G N r c (blockA id Q) ts m := rfl
theorem run_exit (id : Nat) (Q : Exit → TS → Heap → Prop) (ts : TS) (m : Heap) : run P G N r (.exit id) Q ts m = Q (.exit id) ts m := rfl
theorem run_ret (Q : Exit → TS → Heap → Prop) (ts : TS) (m : Heap) : run P G N r .ret Q ts m = Q .ret ts m := rfl
def condA (v : AVal) (yes no : Prop) : Prop := match v with
  | .bool t => (t = true → yes) ∧ (t = false → no)
  | _ => False
@[congr] theorem condA_cong {v v' : AVal} {yes no : Prop} (h : mk v = v') : condA v yes no = condA v' yes no := by rw [mk_id] at h; rw [h]
theorem run_cond (c : Operand) (a b : Code) (Q : Exit → TS → Heap → Prop) (ts : TS) (m : Heap) : run P G N r (.cond c a b) Q ts m = condA (ev G ts c) (run P G N r a Q ts m) (run P G N r b Q ts m) := by
  simp only [run, condA]
  generalize ev G ts c = v
  cases v <;> rfl
theorem condA_true (yes no : Prop) : condA (.bool true) yes no = yes := by simp [condA]
theorem condA_false (yes no : Prop) : condA (.bool false) yes no = no := by simp [condA]
theorem condA_bool (t : Bool) (yes no : Prop) (h1 : t = true → yes) (h2 : t = false → no) : condA (.bool t) yes no := ⟨h1, h2⟩
theorem thenA_normal (next : TS → Heap → Prop) (Q : Exit → TS → Heap → Prop) (ts : TS) (m : Heap) : thenA next Q .normal ts m = next ts m := rfl
theorem thenA_ret (next : TS → Heap → Prop) (Q : Exit → TS → Heap → Prop) (ts : TS) (m : Heap) : thenA next Q .ret ts m = Q .ret ts m := rfl
theorem thenA_exit (id : Nat) (next : TS → Heap → Prop) (Q : Exit → TS → Heap → Prop) (ts : TS) (m : Heap) : thenA next Q (.exit id) ts m = Q (.exit id) ts m := rfl
theorem blockA_normal (id : Nat) (Q : Exit → TS → Heap → Prop) (ts : TS) (m : Heap) : blockA id Q .normal ts m = Q .normal ts m := rfl
theorem blockA_ret (id : Nat) (Q : Exit → TS → Heap → Prop) (ts : TS) (m : Heap) : blockA id Q .ret ts m = Q .ret ts m := rfl
theorem blockA_exit (id id' : Nat) (Q : Exit → TS → Heap → Prop) (ts : TS) (m : Heap) : blockA id Q (.exit id') ts m = if id' = id then Q .normal ts m else Q (.exit id') ts m := rfl

/-! Operations -/
theorem runOps_nil (ops : Array Oper) (ts : TS) (m : Heap) (K : TS → Heap → Prop) : runOps P G N ops [] ts m K = K ts m := rfl
theorem runOps_arr (ops : Array Oper) (l : List Oper) (ts : TS) (m : Heap) (K : TS → Heap → Prop) : runOps P G N ops l.toArray.toList ts m K = runOps P G N ops l ts m K := rfl
/-- An operation with no guard. -/
theorem runOps_cons (ops : Array Oper) (d : Option Nat) (op : Op) (t : TypeId) (pos : String) (af : Array Edge) (rest : List Oper) (ts : TS) (m : Heap) (K : TS → Heap → Prop) :
    runOps P G N ops ({ dst := d, op := op, type := t, pos := pos, after := af, guard := none } :: rest) ts m K = (dstOk N d ∧ opGo P G (ev G ts) op m fun v m' => runOps P G N ops rest (put ts d v) m' K) := rfl
theorem dstOk_none : dstOk N none = True := rfl
theorem dstOk_some (d : Nat) : dstOk N (some d) = (d < N) := rfl
variable {e : Operand → AVal} {m : Heap} {K : AVal → Heap → Prop}
theorem go_move (x : Operand) : opGo P G e (.move x) m K = K (e x) m := by simp only [opGo, callOf, specOf, den, D.run, true_and]
theorem go_assign (x : Operand) : opGo P G e (.assign x) m K = K (e x) m := by simp only [opGo, callOf, specOf, den, D.run, true_and]
theorem go_pick (c a b : Operand) : opGo P G e (.pick c a b) m K = (apk (e c) (e a) (e b)).run m K := rfl
theorem go_alloc (t : TypeId) : opGo P G e (.alloc t) m K = (aalloc P t).run m K := rfl
theorem go_box (t : TypeId) (v : Operand) : opGo P G e (.box t v) m K = (abox t (e v)).run m K := rfl
theorem go_build (t : TypeId) (ps : Array (Nat × Operand)) : opGo P G e (.build t ps) m K = (abuild P t (ps.toList.map fun p => (p.1, e p.2))).run m K := rfl
theorem go_buildSlice (t : TypeId) (n : Nat) (ps : Array (Nat × Operand)) : opGo P G e (.buildSlice t n ps) m K = (abuildSlice P t n (ps.toList.map fun p => (p.1, e p.2))).run m K := rfl
theorem go_load (t : TypeId) (a : Operand) : opGo P G e (.load t a) m K = (aload P t (e a)).run m K := rfl
theorem go_store (t : TypeId) (a v : Operand) : opGo P G e (.store t a v) m K = (astore P t (e a) (e v)).run m K := rfl
theorem go_nilCheck (x : Operand) : opGo P G e (.nilCheck x) m K = (anil (e x)).run m K := rfl
theorem go_binOp (op : BinOp) (t : TypeId) (x y : Operand) (t' : TypeId) : opGo P G e (.binOp op t x y t') m K = (abin P op t (e x) (e y)).run m K := rfl
theorem go_unOp (op : UnOp) (t : TypeId) (x : Operand) : opGo P G e (.unOp op t x) m K = (aun op (e x)).run m K := rfl
theorem go_convert (s d : TypeId) (x : Operand) : opGo P G e (.convert s d x) m K = (aconv P s d (e x)).run m K := rfl
theorem go_iface (t : TypeId) (x : Operand) : opGo P G e (.makeInterface t x) m K = (aiface P t (e x)).run m K := rfl
theorem go_makeFunc (fn : Fn) (fs cs : Array Operand) : opGo P G e (.makeFunc fn fs cs) m K = K (.func fn (fs.toList.map e) (cs.toList.map e)) m := by simp only [opGo, callOf, specOf, den, D.run, true_and]
theorem go_makeSlice (t : TypeId) (l c : Operand) : opGo P G e (.makeSlice t l c) m K = (amake P t (e l) (e c)).run m K := rfl
theorem go_slice (t : TypeId) (x : Operand) (lo hi mx : Option Operand) : opGo P G e (.slice t x lo hi mx) m K = (aslice P t (e x) (lo.map e) (hi.map e) (mx.map e)).run m K := rfl
theorem go_fieldAddr (t : TypeId) (x : Operand) (f : Nat) : opGo P G e (.fieldAddr t x f) m K = (afieldAddr P t f (e x)).run m K := rfl
theorem go_field (t : TypeId) (x : Operand) (f : Nat) : opGo P G e (.field t x f) m K = (afield P t f (e x)).run m K := rfl
theorem go_indexAddr (t : TypeId) (x i : Operand) : opGo P G e (.indexAddr t x i) m K = (aindexAddr P t (e x) (e i)).run m K := rfl
theorem go_index (t : TypeId) (x i : Operand) : opGo P G e (.index t x i) m K = (aindex P t (e x) (e i)).run m K := rfl
theorem go_extract (x : Operand) (i : Nat) : opGo P G e (.extract x i) m K = (aextract i (e x)).run m K := rfl
theorem go_makeMap (t : TypeId) (r : Option Operand) : opGo P G e (.makeMap t r) m K = (match P.underlying t with
    | some (.map _ _) => amakeMap (r.map e)
    | _ => .fail : D).run m K := rfl
theorem go_lookup (t : TypeId) (x k : Operand) (ok : Bool) : opGo P G e (.lookup t x k ok) m K = (alookup P t ok (e x) (e k)).run m K := rfl
theorem go_mapUpdate (t : TypeId) (x k v : Operand) : opGo P G e (.mapUpdate t x k v) m K = (amapUpdate P t (e x) (e k) (e v)).run m K := rfl
theorem go_insert (t : TypeId) (x k v : Operand) : opGo P G e (.insert t x k v) m K = (amapUpdate P t (e x) (e k) (e v)).run m K := rfl
theorem go_range (t : TypeId) (x : Operand) : opGo P G e (.range t x) m K = (arange P t (e x)).run m K := rfl
theorem go_next (x : Operand) (s : Bool) : opGo P G e (.next x s) m K = (anext s (e x)).run m K := rfl
theorem go_entry (x : Operand) : opGo P G e (.entry x) m K = (aentry (e x)).run m K := rfl
theorem go_builtin (b : Builtin) (as : Array Operand) (ts : Array TypeId) : opGo P G e (.call { callee := .builtin b, args := as, argTypes := ts }) m K = (abuiltin P b ts.toList (as.toList.map e)).run m K := rfl
/-- A call, by what is called. -/
def callV (P : Program) (G : Nat → AVal) (f : AVal) (args : List AVal) (m : Heap) (K : AVal → Heap → Prop) : Prop := match f with
  | .func (.func g) fs cs => CallWP P G g (fs ++ args ++ cs) m K
  | .func (.yield l) [] [] => YieldWP P G l args m K
  | _ => False
@[congr] theorem callV_cong {f f' : AVal} {args args' : List AVal} {K : AVal → Heap → Prop} {m m' : Heap} (h0 : mk f = f') (h1 : args = args') (h2 : m = m') : callV P G f args m K = callV P G f' args' m' K := by rw [mk_id] at h0; rw [h0, h1, h2]
theorem go_call (f : Operand) (as : Array Operand) (ts : Array TypeId) : opGo P G e (.call { callee := .value f, args := as, argTypes := ts }) m K = callV P G (e f) (as.toList.map e) m K := by
  unfold opGo callV
  simp only [callOf, specOf]
  cases hf : e f <;> try rfl
  rename_i fn fs cs
  cases fn <;> try rfl
  cases fs <;> try rfl
  cases cs <;> rfl
theorem callV_yield (l : Nat) (args : List AVal) : callV P G (.func (.yield l) [] []) args m K = YieldWP P G l args m K := rfl
/-- A call through an interface, by what is in it. -/
def invV (P : Program) (G : Nat → AVal) (f : AVal) (name : String) (args : List AVal) (m : Heap) (K : AVal → Heap → Prop) : Prop := match f with
  | .iface t v => SpecWP P G (.inv t v name) args m K
  | _ => False
@[congr] theorem invV_cong {f f' : AVal} {name : String} {args args' : List AVal} {K : AVal → Heap → Prop} {m m' : Heap} (h0 : mk f = f') (h1 : args = args') (h2 : m = m') : invV P G f name args m K = invV P G f' name args' m' K := by rw [mk_id] at h0; rw [h0, h1, h2]
theorem go_invoke (f : Operand) (name : String) (as : Array Operand) (ts : Array TypeId) : opGo P G e (.call { callee := .invoke f name, args := as, argTypes := ts }) m K = invV P G (e f) name (as.toList.map e) m K := by
  unfold opGo invV
  simp only [callOf, specOf]
  cases hf : e f <;> rfl
theorem invV_iface (t : TypeId) (v : AVal) (name : String) (args : List AVal) : invV P G (.iface t v) name args m K = SpecWP P G (.inv t v name) args m K := rfl
@[congr] theorem YieldWP_cong {l : Nat} {args args' : List AVal} {K : AVal → Heap → Prop} {m m' : Heap} (h1 : mk args = args') (h2 : m = m') : YieldWP P G l args m K = YieldWP P G l args' m' K := by rw [mk_id] at h1; rw [h1, h2]
@[congr] theorem SpecWP_cong {t : TypeId} {v v' : AVal} {name : String} {args args' : List AVal} {K : AVal → Heap → Prop} {m m' : Heap} (h0 : mk v = v') (h1 : args = args') (h2 : m = m') : SpecWP P G (.inv t v name) args m K = SpecWP P G (.inv t v' name) args' m' K := by rw [mk_id] at h0; rw [h0, h1, h2]
theorem SpecWP.method {t : TypeId} {v : AVal} {name : String} {f : FuncId} {args : List AVal} (hm : MethodIs P t name f) (h : CallWP P G f (v :: args) m K) : SpecWP P G (.inv t v name) args m K := ⟨f, hm, h⟩
theorem isYield {l : Nat} {args : List AVal} (h : YieldWP P G l args m K) : YieldWP P G l args m K := h
theorem isSpec {t : TypeId} {v : AVal} {name : String} {args : List AVal} (h : SpecWP P G (.inv t v name) args m K) : SpecWP P G (.inv t v name) args m K := h
theorem callV_func (g : FuncId) (fs cs args : List AVal) : callV P G (.func (.func g) fs cs) args m K = CallWP P G g (fs ++ args ++ cs) m K := rfl

/-! What an operation comes to -/
theorem run_fail : D.fail.run m K = False := rfl
theorem run_pure' (c : Prop) (v : AVal) : (D.pure c v).run m K = Need c (K v m) := rfl
def readA (x : Option ABlk) (c : ABlk → Prop) (k : ABlk → Prop) : Prop := match x with
  | some y => c y ∧ k y
  | none => False
@[congr] theorem readA_cong {x x' : Option ABlk} {c k : ABlk → Prop} (h : mk x = x') : readA x c k = readA x' c k := by rw [mk_id] at h; rw [h]
theorem readA_some (y : ABlk) (c k : ABlk → Prop) : readA (some y) c k = Need (c y) (k y) := rfl
theorem run_read (p : Nat) (c : ABlk → Prop) (f : ABlk → AVal) : (D.read p c f).run m K = readA (m p) c (fun x => K (f x) m) := by
  simp only [D.run, readA]
  cases m p <;> rfl
theorem run_alloc (c : Prop) (x : ABlk) (mk : Nat → AVal) : (D.alloc c x mk).run m K = Need c (Al m fun b => K (mk b) (hupd m b x)) := rfl
theorem run_write (p : Nat) (c : ABlk → Prop) (f : ABlk → ABlk) (v : AVal) : (D.write p c f v).run m K = readA (m p) c (fun x => K v (hupd m p (f x))) := by
  simp only [D.run, readA]
  cases m p <;> rfl
theorem upd_at (ts : TS) (d i : Nat) (v : AVal) : upd ts d v i = if i = d then v else ts i := rfl
theorem upd_eq (ts : TS) (d : Nat) (v : AVal) : upd ts d v d = v := by simp [upd]
theorem put_some (ts : TS) (d : Nat) (v : AVal) : put ts (some d) v = upd ts d v := rfl
theorem put_none (ts : TS) (v : AVal) : put ts none v = ts := rfl
theorem hupd_hupd (m : Heap) (b : Nat) (x y : ABlk) : hupd (hupd m b x) b y = hupd m b y := by
  funext i; simp only [hupd]; split <;> rfl
theorem hupd_none' {m : Heap} {b c : Nat} {x : ABlk} : hupd m b x c = none ↔ (c ≠ b ∧ b ≠ c) ∧ m c = none := by
  rw [hupd_none]; exact ⟨fun h => ⟨⟨h.1, Ne.symm h.1⟩, h.2⟩, fun h => ⟨h.1.1, h.2⟩⟩
theorem hupd_at (m : Heap) (b p : Nat) (x : ABlk) : hupd m b x p = if p = b then some x else m p := rfl
end
end Go.Proofs.YtdckcophbmnjjaaGreatDoor.Ab
namespace Go.Proofs.YtdckcophbmnjjaaGreatDoor.Ab
open Go

/-- An operation of a drawn region, with all that its walk needs. -/
structure DOp where
  i : Nat
  c : Cls
  d : Option Nat
  g : Option (Option Nat × Bool)
  op : Op
def lookD (ops : Array Oper) (x : Nat × Cls) : DOp := match ops[x.1]? with
  | some o => ⟨x.1, x.2, o.dst, o.guard.map fun g => ((ops[g.1]?).bind (·.dst), g.2), o.op⟩
  | none => ⟨0, .q, none, none, .panic (.tmp 0)⟩

/-- What an effect must leave. -/
def Stab (S : Nat → Prop) (m m' : Heap) : Prop := ∀ p, S p → m' p = m p
section
variable (P : Program) (G : Nat → AVal) (qv : Nat → AVal) (S0 : Nat → Prop) (S : Nat → Nat → Prop) (rt : Nat → Heap → AVal → Heap → Prop) (m0 : Heap)

def callQ (f : AVal) (args : List AVal) (v : AVal) : Prop := match f with
  | .func (.func g) fs cs => QCall P G S0 m0 g (fs ++ args ++ cs) v
  | _ => False
def kA (e : Operand → AVal) (v : AVal) : Op → Prop
  | .call c => match c.callee with
    | .value f => callQ P G S0 m0 (e f) (c.args.toList.map e) v
    | _ => False
  | _ => False
def actE (x : DOp) (ts : TS) (m : Heap) (K : AVal → Heap → Prop) : Prop := match x.c with
  | .q => (plain (den P (ev G ts) x.op)).run m K
  | .r us => (calm (fun p => ∀ u, u ∈ us → S u p) (den P (ev G ts) x.op)).run m K
  | .k => kA P G S0 m0 (ev G ts) (qv x.i) x.op ∧ K (qv x.i) m
  | .e => opGo P G (ev G ts) x.op m fun v m' => (Stab S0 m m' ∧ Stab (S x.i) m m') ∧ K v m'
  | .t => Told P G S0 m0 (ev G ts) x.op (rt x.i) ∧ ∀ v m', rt x.i m v m' → K v m'
/-- Is it carried out? -/
def gA (g : Option (Option Nat × Bool)) (ts : TS) (yes no : Prop) : Prop := match g with
  | none => yes
  | some (none, _) => no
  | some (some d, want) => match ts d with
    | .bool b => (b = want → yes) ∧ (b = !want → no)
    | .tuple _ => no
    | _ => False
def goE : List DOp → TS → Heap → (TS → Heap → Prop) → Prop
  | [], ts, m, K => K ts m
  | x :: rest, ts, m, K => gA x.g ts (actE P G qv S0 S rt m0 x ts m fun v m' => goE rest (put ts x.d v) m' K) (goE rest (put ts x.d (.tuple [])) m K)

theorem act_of {x : DOp} {ops : Array Oper} {ts : TS} {m : Heap} {K : AVal → Heap → Prop} (h : actE P G qv S0 S rt m0 x ts m K) : ((Dr.mk P G ops qv S0 S m0 rt).act x.c x.i (ev G ts) x.op).run m K := by
  unfold actE at h
  unfold Dr.act
  obtain ⟨i, c, d, g, op⟩ := x
  cases c with
  | q => exact h
  | r us => exact h
  | e => exact h
  | t => exact h
  | k =>
    simp only at h ⊢
    obtain ⟨h1, h2⟩ := h
    cases op <;> simp only [kA] at h1
    rename_i c
    simp only [callOf]
    split at h1
    · rename_i f hf
      unfold callQ at h1
      split at h1
      · rename_i g' fs cs hg
        simp only [hf, hg, Dr.qc]
        exact ⟨h1, h2⟩
      · exact h1.elim
    · exact h1.elim

theorem go_of {ops : Array Oper} {K : TS → Heap → Prop} : ∀ (ord : List (Nat × Cls)) (ts : TS) (m : Heap), (∀ x, x ∈ ord → x.1 < ops.size) → goE P G qv S0 S rt m0 (ord.map (lookD ops)) ts m K → (Dr.mk P G ops qv S0 S m0 rt).go ord ts m K ∧ True
  | [], ts, m, _, h => ⟨h, trivial⟩
  | x :: rest, ts, m, hlt, h => by
    have hx : x.1 < ops.size := hlt x (by simp)
    have ho : ops[x.1]? = some ops[x.1] := Array.getElem?_eq_getElem hx
    generalize ops[x.1] = o at ho
    have hl : lookD ops x = ⟨x.1, x.2, o.dst, o.guard.map fun g => ((ops[g.1]?).bind (·.dst), g.2), o.op⟩ := by simp only [lookD, ho]
    simp only [List.map_cons, goE, hl] at h
    refine ⟨?_, trivial⟩
    show Dr.step _ x ts m _
    unfold Dr.step
    simp only [ho]
    unfold Dr.d gd
    have rec' : ∀ ts m, goE P G qv S0 S rt m0 (rest.map (lookD ops)) ts m K → (Dr.mk P G ops qv S0 S m0 rt).go rest ts m K := fun ts m h => (go_of rest ts m (fun y hy => hlt y (by simp [hy])) h).1
    have hact : actE P G qv S0 S rt m0 ⟨x.1, x.2, o.dst, o.guard.map fun g => ((ops[g.1]?).bind (·.dst), g.2), o.op⟩ ts m (fun v m' => goE P G qv S0 S rt m0 (rest.map (lookD ops)) (put ts o.dst v) m' K) →
        ((Dr.mk P G ops qv S0 S m0 rt).act x.2 x.1 (ev G ts) o.op).run m fun v m' => (Dr.mk P G ops qv S0 S m0 rt).go rest (put ts o.dst v) m' K := by
      intro ha
      have ha' := act_of P G qv S0 S rt m0 (ops := ops) ha
      simp only at ha'
      have mono : ∀ (d : D), d.Mono → d.run m (fun v m' => goE P G qv S0 S rt m0 (rest.map (lookD ops)) (put ts o.dst v) m' K) → d.run m fun v m' => (Dr.mk P G ops qv S0 S m0 rt).go rest (put ts o.dst v) m' K :=
        fun d hd hr => hd m _ _ (fun v m' h => rec' _ _ h) hr
      refine mono _ ?_ ha'
      unfold Dr.act
      cases x.2 with
      | q => exact D.Mono.of (by cases den P (ev G ts) o.op <;> rfl)
      | r us => exact D.Mono.of (by cases den P (ev G ts) o.op <;> rfl)
      | k => exact D.Mono.of (by simp only; cases callOf (ev G ts) o.op <;> rfl)
      | e => intro m K K' hk hr; exact opGo_mono (fun v m' hv => ⟨hv.1, hk v m' hv.2⟩) hr
      | t => intro m K K' hk hr; exact ⟨hr.1, fun v m' h => hk v m' (hr.2 v m' h)⟩
    cases hg : o.guard with
    | none => simp only [hg, Option.map_none, gA] at h ⊢; exact hact (by simpa only [hg, Option.map_none] using h)
    | some g =>
      obtain ⟨j, want⟩ := g
      simp only [hg, Option.map_some, gA] at h ⊢
      cases hj : (ops[j]?).bind (·.dst) with
      | none => simp only [hj] at h ⊢; exact ⟨trivial, rec' _ _ h⟩
      | some d =>
        simp only [hj] at h ⊢
        cases hd : ts d <;> simp only [hd] at h ⊢ <;> try exact h.elim
        · rename_i b
          by_cases hb : b = want
          · subst hb
            simp only [beq_self_eq_true]
            exact hact (by simpa only [hg, Option.map_some, hj] using h.1 rfl)
          · have hb' : b = !want := by cases b <;> cases want <;> simp_all
            have hbf : (b == want) = false := by simpa using hb
            rw [hbf]
            exact ⟨trivial, rec' _ _ (h.2 hb')⟩
        · exact ⟨trivial, rec' _ _ h⟩
end

/-- A drawn region, walked in one order that stands for all, its operations laid open. -/
theorem awp_drawnT {P : Program} {G : Nat → AVal} {N : Nat} {r : Option Nat} {id : Nat} {ops : Array Oper} {Q : Exit → TS → Heap → Prop} {ts : TS} {m : Heap} (ord : List (Nat × Cls)) (qv : Nat → AVal) (S0 : Nat → Prop) (S : Nat → Nat → Prop) (rt : Nat → Heap → AVal → Heap → Prop)
    (hm : P.follows .mixedOrders = true) (hc : chk ops N ord = true) (h : goE P G qv S0 S rt m (ord.map (lookD ops)) ts m (Q .normal)) : AWP P G N r (.region id ops true) Q ts m := by
  refine awp_drawn ord qv S0 S rt hm hc (go_of P G qv S0 S rt m ord ts m (fun x hx => ?_) h).1
  unfold chk chkWith at hc
  simp only [Bool.and_eq_true, List.all_eq_true, decide_eq_true_eq] at hc
  exact hc.1.1.2 x hx

/-- The same, no effect being told ahead. -/
theorem awp_drawnE {P : Program} {G : Nat → AVal} {N : Nat} {r : Option Nat} {id : Nat} {ops : Array Oper} {Q : Exit → TS → Heap → Prop} {ts : TS} {m : Heap} (ord : List (Nat × Cls)) (qv : Nat → AVal) (S0 : Nat → Prop) (S : Nat → Nat → Prop)
    (hm : P.follows .mixedOrders = true) (hc : chk ops N ord = true) (h : goE P G qv S0 S (fun _ _ _ _ => False) m (ord.map (lookD ops)) ts m (Q .normal)) : AWP P G N r (.region id ops true) Q ts m := awp_drawnT ord qv S0 S _ hm hc h

section
variable {P : Program} {G : Nat → AVal} {qv : Nat → AVal} {S0 : Nat → Prop} {S : Nat → Nat → Prop} {rt : Nat → Heap → AVal → Heap → Prop} {m0 : Heap}
@[congr] theorem goE_cong {l l' : List DOp} {K : TS → Heap → Prop} {ts ts' : TS} {m m' : Heap} (h0 : mk l = l') (h1 : ts = ts') (h2 : m = m') : goE P G qv S0 S rt m0 l ts m K = goE P G qv S0 S rt m0 l' ts' m' K := by rw [mk_id] at h0; rw [h0, h1, h2]
@[congr] theorem gA_cong {g g' : Option (Option Nat × Bool)} {ts ts' : TS} {yes no : Prop} (h : mk g = g') (h' : ts = ts') : gA g ts yes no = gA g' ts' yes no := by rw [mk_id] at h; rw [h, h']
theorem goE_nil (ts : TS) (m : Heap) (K : TS → Heap → Prop) : goE P G qv S0 S rt m0 [] ts m K = K ts m := rfl
theorem goE_q (i : Nat) (d : Option Nat) (op : Op) (rest : List DOp) (ts : TS) (m : Heap) (K : TS → Heap → Prop) :
    goE P G qv S0 S rt m0 (⟨i, .q, d, none, op⟩ :: rest) ts m K = (plain (den P (ev G ts) op)).run m fun v m' => goE P G qv S0 S rt m0 rest (put ts d v) m' K := rfl
/-- Whether all these effects leave a block. -/
def allS (S : Nat → Nat → Prop) : List Nat → Nat → Prop
  | [], _ => True
  | u :: us, p => S u p ∧ allS S us p
theorem allS_eq (S : Nat → Nat → Prop) : ∀ (us : List Nat) (p : Nat), (∀ u, u ∈ us → S u p) = allS S us p
  | [], p => by simp [allS]
  | u :: us, p => by rw [allS, ← allS_eq S us p]; simp
theorem allS_nil (p : Nat) : allS S [] p = True := rfl
theorem allS_cons (u : Nat) (us : List Nat) (p : Nat) : allS S (u :: us) p = (S u p ∧ allS S us p) := rfl
theorem goE_r (us : List Nat) (i : Nat) (d : Option Nat) (op : Op) (rest : List DOp) (ts : TS) (m : Heap) (K : TS → Heap → Prop) :
    goE P G qv S0 S rt m0 (⟨i, .r us, d, none, op⟩ :: rest) ts m K = (calm (allS S us) (den P (ev G ts) op)).run m fun v m' => goE P G qv S0 S rt m0 rest (put ts d v) m' K := by
  have : allS S us = fun p => ∀ u, u ∈ us → S u p := by funext p; exact (allS_eq S us p).symm
  rw [this]; rfl
theorem goE_e (i : Nat) (d : Option Nat) (op : Op) (rest : List DOp) (ts : TS) (m : Heap) (K : TS → Heap → Prop) :
    goE P G qv S0 S rt m0 (⟨i, .e, d, none, op⟩ :: rest) ts m K = opGo P G (ev G ts) op m fun v m' => Need (Stab S0 m m' ∧ Stab (S i) m m') (goE P G qv S0 S rt m0 rest (put ts d v) m' K) := rfl
/-- An effect told ahead: its contract, and what follows it. -/
def ToldA (P : Program) (G : Nat → AVal) (S0 : Nat → Prop) (m0 : Heap) (e : Operand → AVal) (op : Op) (R : Heap → AVal → Heap → Prop) (m : Heap) (K : AVal → Heap → Prop) : Prop := Told P G S0 m0 e op R ∧ ∀ v m', R m v m' → K v m'
@[congr] theorem ToldA_cong {e : Operand → AVal} {op op' : Op} {R R' : Heap → AVal → Heap → Prop} {m m' : Heap} {K : AVal → Heap → Prop} (h : mk op = op') (h2 : mk R = R') (h1 : m = m') : ToldA P G S0 m0 e op R m K = ToldA P G S0 m0 e op' R' m' K := by rw [mk_id] at h h2; rw [h, h1, h2]
theorem ToldA.of {e : Operand → AVal} {op : Op} {R : Heap → AVal → Heap → Prop} {m : Heap} {K : AVal → Heap → Prop} (h1 : ∀ m', Stays S0 m0 m' → opGo P G e op m' fun v m'' => R m' v m'') (h2 : FrameOK R) (h3 : ∀ v m', R m v m' → K v m') : ToldA P G S0 m0 e op R m K := ⟨⟨h1, h2⟩, h3⟩
theorem goE_t (i : Nat) (d : Option Nat) (op : Op) (rest : List DOp) (ts : TS) (m : Heap) (K : TS → Heap → Prop) :
    goE P G qv S0 S rt m0 (⟨i, .t, d, none, op⟩ :: rest) ts m K = ToldA P G S0 m0 (ev G ts) op (rt i) m fun v m' => goE P G qv S0 S rt m0 rest (put ts d v) m' K := rfl
theorem goE_k (i : Nat) (d : Option Nat) (f : Operand) (as : Array Operand) (tys : Array TypeId) (rest : List DOp) (ts : TS) (m : Heap) (K : TS → Heap → Prop) :
    goE P G qv S0 S rt m0 (⟨i, .k, d, none, .call { callee := .value f, args := as, argTypes := tys }⟩ :: rest) ts m K =
      (callQ P G S0 m0 (ev G ts f) (as.toList.map (ev G ts)) (qv i) ∧ goE P G qv S0 S rt m0 rest (put ts d (qv i)) m K) := rfl
theorem goE_gq (i : Nat) (c : Cls) (d g : Option Nat) (want : Bool) (op : Op) (rest : List DOp) (ts : TS) (m : Heap) (K : TS → Heap → Prop) :
    goE P G qv S0 S rt m0 (⟨i, c, d, some (g, want), op⟩ :: rest) ts m K = gA (some (g, want)) ts (goE P G qv S0 S rt m0 (⟨i, c, d, none, op⟩ :: rest) ts m K) (goE P G qv S0 S rt m0 rest (put ts d (.tuple [])) m K) := rfl
/-- A guard's value. -/
def gV (v : AVal) (want : Bool) (yes no : Prop) : Prop := match v with
  | .bool b => (b = want → yes) ∧ (b = !want → no)
  | .tuple _ => no
  | _ => False
@[congr] theorem gV_cong {v v' : AVal} {want : Bool} {yes no : Prop} (h : mk v = v') : gV v want yes no = gV v' want yes no := by rw [mk_id] at h; rw [h]
theorem gA_at (d : Nat) (want : Bool) (ts : TS) (yes no : Prop) : gA (some (some d, want)) ts yes no = gV (ts d) want yes no := rfl
theorem gV_tt (yes no : Prop) : gV (.bool true) true yes no = yes := by simp [gV]
theorem gV_tf (yes no : Prop) : gV (.bool true) false yes no = no := by simp [gV]
theorem gV_ft (yes no : Prop) : gV (.bool false) true yes no = no := by simp [gV]
theorem gV_ff (yes no : Prop) : gV (.bool false) false yes no = yes := by simp [gV]
theorem gV_skip (l : List AVal) (want : Bool) (yes no : Prop) : gV (.tuple l) want yes no = no := rfl
theorem gV_true (b : Bool) (yes no : Prop) (h1 : b = true → yes) (h2 : b = false → no) : gV (.bool b) true yes no := ⟨h1, h2⟩
theorem gV_false (b : Bool) (yes no : Prop) (h1 : b = false → yes) (h2 : b = true → no) : gV (.bool b) false yes no := ⟨h1, h2⟩
theorem runOps_guard {N : Nat} (ops : Array Oper) (d : Option Nat) (op : Op) (t : TypeId) (pos : String) (af : Array Edge) (j : Nat) (want : Bool) (rest : List Oper) (ts : TS) (m : Heap) (K : TS → Heap → Prop) :
    runOps P G N ops ({ dst := d, op := op, type := t, pos := pos, after := af, guard := some (j, want) } :: rest) ts m K =
      (dstOk N d ∧ gA (some ((ops[j]?).bind (·.dst), want)) ts (opGo P G (ev G ts) op m fun v m' => runOps P G N ops rest (put ts d v) m' K) (runOps P G N ops rest (put ts d (.tuple [])) m K)) := by
  simp only [runOps, wantA, gA]
  cases (ops[j]?).bind (·.dst) with
  | none => rfl
  | some d' => simp only; cases ts d' <;> rfl
theorem hupd_over {m : Heap} {b c : Nat} {x y z : ABlk} (h : (b = c) = False) : hupd (hupd (hupd m b x) c y) b z = hupd (hupd m b z) c y := by
  have hn : b ≠ c := fun e => by rw [e] at h; simp at h
  rw [hupd_swap (Ne.symm hn), hupd_hupd]
theorem callQ_func (g : FuncId) (fs cs args : List AVal) (v : AVal) : callQ P G S0 m0 (.func (.func g) fs cs) args v = QCall P G S0 m0 g (fs ++ args ++ cs) v := rfl
@[congr] theorem callQ_cong {f f' : AVal} {args args' : List AVal} {v : AVal} (h0 : mk f = f') (h1 : args = args') : callQ P G S0 m0 f args v = callQ P G S0 m0 f' args' v := by rw [mk_id] at h0; rw [h0, h1]
@[congr] theorem QCall_cong {f : FuncId} {args args' : List AVal} {v : AVal} (h1 : mk args = args') : QCall P G S0 m0 f args v = QCall P G S0 m0 f args' v := by rw [mk_id] at h1; rw [h1]
theorem plain_pure (c : Prop) (v : AVal) : plain (.pure c v) = .pure c v := rfl
theorem plain_read (p : Nat) (c : ABlk → Prop) (f : ABlk → AVal) : plain (.read p c f) = .read p c f := rfl
theorem plain_alloc (c : Prop) (x : ABlk) (mk : Nat → AVal) : plain (.alloc c x mk) = .alloc c x mk := rfl
theorem calm_pure (S : Nat → Prop) (c : Prop) (v : AVal) : calm S (.pure c v) = .pure c v := rfl
theorem calm_read (S : Nat → Prop) (p : Nat) (c : ABlk → Prop) (f : ABlk → AVal) : calm S (.read p c f) = .read p (fun x => S p ∧ c x) f := rfl
theorem Stab.refl (S : Nat → Prop) (m : Heap) : Stab S m m = True := by simp [Stab]
theorem Stab.upd {S : Nat → Prop} {m : Heap} {b : Nat} {x : ABlk} (h : S b = False) : Stab S m (hupd m b x) = True := by
  simp only [eq_iff_iff, iff_true]
  intro p hp
  exact hupd_ne (fun e => by rw [e, h] at hp; exact hp)

theorem Stab.upd2 {S : Nat → Prop} {m : Heap} {b : Nat} {x y : ABlk} (h : S b = False) : Stab S (hupd m b x) (hupd m b y) = True := by
  simp only [eq_iff_iff, iff_true]
  intro p hp
  have hn : p ≠ b := fun e => by rw [e, h] at hp; exact hp
  rw [hupd_ne hn, hupd_ne hn]

/-! What den comes to -/
variable {e : Operand → AVal}
theorem den_move (x : Operand) : den P e (.move x) = .pure True (e x) := rfl
theorem den_assign (x : Operand) : den P e (.assign x) = .pure True (e x) := rfl
theorem den_pick (c a b : Operand) : den P e (.pick c a b) = apk (e c) (e a) (e b) := rfl
theorem den_alloc (t : TypeId) : den P e (.alloc t) = aalloc P t := rfl
theorem den_box (t : TypeId) (v : Operand) : den P e (.box t v) = abox t (e v) := rfl
theorem den_build (t : TypeId) (ps : Array (Nat × Operand)) : den P e (.build t ps) = abuild P t (ps.toList.map fun p => (p.1, e p.2)) := rfl
theorem den_buildSlice (t : TypeId) (n : Nat) (ps : Array (Nat × Operand)) : den P e (.buildSlice t n ps) = abuildSlice P t n (ps.toList.map fun p => (p.1, e p.2)) := rfl
theorem den_load (t : TypeId) (a : Operand) : den P e (.load t a) = aload P t (e a) := rfl
theorem den_nilCheck (x : Operand) : den P e (.nilCheck x) = anil (e x) := rfl
theorem den_binOp (op : BinOp) (t : TypeId) (x y : Operand) (t' : TypeId) : den P e (.binOp op t x y t') = abin P op t (e x) (e y) := rfl
theorem den_unOp (op : UnOp) (t : TypeId) (x : Operand) : den P e (.unOp op t x) = aun op (e x) := rfl
theorem den_convert (s d : TypeId) (x : Operand) : den P e (.convert s d x) = aconv P s d (e x) := rfl
theorem den_iface (t : TypeId) (x : Operand) : den P e (.makeInterface t x) = aiface P t (e x) := rfl
theorem den_makeFunc (fn : Fn) (fs cs : Array Operand) : den P e (.makeFunc fn fs cs) = .pure True (.func fn (fs.toList.map e) (cs.toList.map e)) := rfl
theorem den_makeSlice (t : TypeId) (l c : Operand) : den P e (.makeSlice t l c) = amake P t (e l) (e c) := rfl
theorem den_slice (t : TypeId) (x : Operand) (lo hi mx : Option Operand) : den P e (.slice t x lo hi mx) = aslice P t (e x) (lo.map e) (hi.map e) (mx.map e) := rfl
theorem den_fieldAddr (t : TypeId) (x : Operand) (f : Nat) : den P e (.fieldAddr t x f) = afieldAddr P t f (e x) := rfl
theorem den_field (t : TypeId) (x : Operand) (f : Nat) : den P e (.field t x f) = afield P t f (e x) := rfl
theorem den_indexAddr (t : TypeId) (x i : Operand) : den P e (.indexAddr t x i) = aindexAddr P t (e x) (e i) := rfl
theorem den_index (t : TypeId) (x i : Operand) : den P e (.index t x i) = aindex P t (e x) (e i) := rfl
theorem den_extract (x : Operand) (i : Nat) : den P e (.extract x i) = aextract i (e x) := rfl
theorem den_lookup (t : TypeId) (x k : Operand) (ok : Bool) : den P e (.lookup t x k ok) = alookup P t ok (e x) (e k) := rfl
theorem den_mapUpdate (t : TypeId) (x k v : Operand) : den P e (.mapUpdate t x k v) = amapUpdate P t (e x) (e k) (e v) := rfl
theorem den_builtin (b : Builtin) (as : Array Operand) (ts : Array TypeId) : den P e (.call { callee := .builtin b, args := as, argTypes := ts }) = abuiltin P b ts.toList (as.toList.map e) := rfl

/-- What must hold where a body is left, its results given. -/
def bodyR (P : Program) (rs : List ResultVar) (K : AVal → Heap → Prop) : Exit → TS → Heap → Prop
  | .normal, ts, m | .ret, ts, m => resGo P rs ts m fun l => K (mkRes l) m
  | _, _, _ => False
theorem bodyR_normal (rs : List ResultVar) (K : AVal → Heap → Prop) (ts : TS) (m : Heap) : bodyR P rs K .normal ts m = resGo P rs ts m fun l => K (mkRes l) m := rfl
theorem bodyR_ret (rs : List ResultVar) (K : AVal → Heap → Prop) (ts : TS) (m : Heap) : bodyR P rs K .ret ts m = resGo P rs ts m fun l => K (mkRes l) m := rfl
/-- A function's contract from its body, the body's parts given. -/
theorem callWP_body {f : FuncId} {fn : Func} {c : Code} {N : Nat} {rs : List ResultVar} {args : List AVal} {m : Heap} {K : AVal → Heap → Prop} (hf : P.funcs[f]? = some fn) (hb : fn.body = some c) (hN : fn.ntmps = N) (hr : fn.results.toList = rs)
    (he : enters P f = true) (hn : args.length ≤ N) (h : run P G N none c (bodyR P rs (Part K)) (fun t => args.getD t (.tuple [])) m) : CallWP P G f args m K := by
  subst hN hr
  refine callWP_fn hf hb he hn ?_
  have e : bodyR P fn.results.toList (Part K) = bodyA P fn (Part K) := by funext x ts m; cases x <;> rfl
  rw [← e]; exact h

theorem CallWP.to {f : FuncId} {args : List AVal} {m : Heap} {v : AVal} {K : AVal → Heap → Prop} (h : CallWP P G f args m fun v' m' => v' = v ∧ m' = m) (hk : K v m) : CallWP P G f args m K := h.mono (by rintro _ _ ⟨rfl, rfl⟩; exact hk)
theorem isCall {f : FuncId} {args : List AVal} {m : Heap} {K : AVal → Heap → Prop} (h : CallWP P G f args m K) : CallWP P G f args m K := h
theorem isAWP {N : Nat} {r : Option Nat} {c : Code} {Q : Exit → TS → Heap → Prop} {ts : TS} {m : Heap} (h : AWP P G N r c Q ts m) : AWP P G N r c Q ts m := h
theorem isPart {K : AVal → Heap → Prop} {v : AVal} {m : Heap} (h : Part K v m) : Part K v m := h

/-! What a body ends in -/
theorem bodyA_normal (fn : Func) (K : AVal → Heap → Prop) (ts : TS) (m : Heap) : bodyA P fn K .normal ts m = resGo P fn.results.toList ts m fun l => K (mkRes l) m := rfl
theorem bodyA_ret (fn : Func) (K : AVal → Heap → Prop) (ts : TS) (m : Heap) : bodyA P fn K .ret ts m = resGo P fn.results.toList ts m fun l => K (mkRes l) m := rfl
theorem resGo_nil (ts : TS) (m : Heap) (k : List AVal → Prop) : resGo P [] ts m k = k [] := rfl
/-- Where a pointer points. -/
def ptrA (v : AVal) (k : Nat → Nat → Prop) : Prop := match v with
  | .ptr b o => k b o
  | _ => False
@[congr] theorem ptrA_cong {v v' : AVal} {k : Nat → Nat → Prop} (h : mk v = v') : ptrA v k = ptrA v' k := by rw [mk_id] at h; rw [h]
theorem ptrA_ptr (b o : Nat) (k : Nat → Nat → Prop) : ptrA (.ptr b o) k = k b o := rfl
theorem resGo_cell (x t : Nat) (rest : List ResultVar) (ts : TS) (m : Heap) (k : List AVal → Prop) :
    resGo P (.cell x t :: rest) ts m k = ptrA (ts x) fun b o => (aload P t (.ptr b o)).run m fun v _ => resGo P rest ts m fun l => k (v :: l) := by
  simp only [resGo]
  generalize ts x = v
  cases v <;> try rfl
  rename_i b o
  simp only [ptrA, aload]
  cases tk P t with
  | none => rfl
  | some p =>
    obtain ⟨a, n⟩ := p
    simp only [D.run]
    cases m b with
    | none => rfl
    | some y => cases y <;> simp
theorem resGo_tmp (t : Nat) (rest : List ResultVar) (ts : TS) (m : Heap) (k : List AVal → Prop) : resGo P (.tmp t :: rest) ts m k = resGo P rest ts m fun l => k (ts t :: l) := rfl
end
end Go.Proofs.YtdckcophbmnjjaaGreatDoor.Ab
namespace Go.Proofs.YtdckcophbmnjjaaGreatDoor.Ab
open Go

theorem splice_n (cs : List AVal) : splice cs 0 [] = cs := by simp [splice]
theorem splice_z (c v : AVal) (cs vs : List AVal) : splice (c :: cs) 0 (v :: vs) = v :: splice cs 0 vs := by simp [splice]
theorem splice_s (c : AVal) (cs vs : List AVal) (o : Nat) : splice (c :: cs) (o + 1) vs = c :: splice cs o vs := by simp [splice, Nat.succ_add]
attribute [go_sem ↓] run_seq run_plain run_drawn run_loop run_block run_exit run_ret run_skip run_cond runOps_cons runOps_nil runOps_arr go_move go_assign go_pick go_alloc go_box go_build go_buildSlice go_load go_store go_nilCheck go_binOp go_unOp go_convert go_iface go_makeFunc go_makeSlice go_slice go_fieldAddr go_field go_indexAddr go_index go_extract go_builtin go_call go_invoke go_makeMap go_lookup go_mapUpdate go_insert go_range go_next go_entry goE_q goE_r goE_e goE_t goE_k goE_nil goE_gq Stab.upd
attribute [go_sem] runOps_guard Need_true dstOk_none dstOk_some thenA_normal thenA_ret thenA_exit blockA_normal blockA_ret blockA_exit condA_true condA_false bodyA_normal bodyA_ret bodyR_normal bodyR_ret resGo_nil resGo_tmp resGo_cell ptrA_ptr mkRes den_move den_assign den_pick den_alloc den_box den_build den_buildSlice den_load den_nilCheck den_binOp den_unOp den_convert den_iface den_makeFunc den_makeSlice den_slice den_fieldAddr den_field den_indexAddr den_index den_extract den_builtin den_lookup den_mapUpdate gA_at gV_tt gV_tf gV_ft gV_ff gV_skip allS_nil allS_cons hupd_over callQ_func callV_func callV_yield invV_iface plain_pure plain_read plain_alloc calm_pure calm_read Stab.refl Stab.upd2 run_alloc run_read run_write run_pure' readA_some abox aalloc aload astore afieldAddr afield aindexAddr aindex abin anum aun aconv aextract apk apick abuiltin amm alen aslice amake abuild abuildSlice aeqop isAggV rok rcell splice_z splice_s splice_n AVal.cells AVal.flat ev ofValue ofCell put_some put_none upd_at hupd_at hupd_hupd Bool.false_eq_true Bool.true_eq_false if_true if_false true_and and_true Nat.le_refl ne_eq not_true_eq_false not_false_eq_true false_implies true_implies implies_true List.getD_cons_zero List.getD_cons_succ List.length_cons List.length_nil List.drop_zero List.take_succ_cons List.take_zero List.drop_succ_cons List.drop_nil List.all_cons List.all_nil Bool.and_true Bool.true_and List.append_nil List.nil_append List.cons_append List.map_cons List.map_nil Option.map_some Option.map_none Nat.zero_add Nat.add_zero Bool.not_true Bool.not_false Bool.not_eq_true Bool.not_eq_false beq_self_eq_true lookD List.getElem?_toArray List.getElem?_cons_zero List.getElem?_cons_succ Option.bind_some Option.bind_none mk_id afill isUndef aeq aeqFs aeqFlat aggOf rokB decide_true decide_eq_true_eq decide_false Bool.and_false Bool.false_and Option.getD_some
end Go.Proofs.YtdckcophbmnjjaaGreatDoor.Ab
