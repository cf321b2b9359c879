/- How the walk is reckoned: one rule an operation, and what stands behind is not looked at before its time. -/
import Derived.Test.YtcdhihoghkkahaaAb16
set_option linter.all false
namespace Go.Proofs.Ytcdhihoghkkahaa.Ab
open Go

section
variable {P : Program} {G : Nat → AVal} {N : Nat} {r : Option Nat}

/-- A mark: what bears it is looked at; what stands beside it is not. -/
def mk {α : Sort _} (x : α) : α := if True then x else x
theorem mk_id {α : Sort _} (x : α) : mk x = x := if_pos trivial
/-- What must hold ahead of what stands behind; that is not looked at before. -/
def Need (c k : Prop) : Prop := c ∧ k
@[congr] theorem Need_cong {c c' k : Prop} (h : mk c = c') : Need c k = Need c' k := by rw [mk_id] at h; rw [h]
theorem Need_true (k : Prop) : Need True k = k := by simp [Need]
theorem Need.intro {c k : Prop} (h : c) (h' : k) : Need c k := ⟨h, h'⟩
/-- Whatever block is new. -/
def Al (m : Heap) (F : Nat → Prop) : Prop := ∀ b, m b = none → F b
theorem Al.intro {m : Heap} {F : Nat → Prop} (h : ∀ b, m b = none → F b) : Al m F := h
@[congr] theorem Al.cong {m m' : Heap} {F : Nat → Prop} (h : mk m = m') : Al m F = Al m' F := by rw [mk_id] at h; rw [h]
@[congr] theorem run_cong {c : Code} {Q : Exit → TS → Heap → Prop} {ts ts' : TS} {m m' : Heap} (h1 : mk ts = ts') (h2 : m = m') : run P G N r c Q ts m = run P G N r c Q ts' m' := by rw [mk_id] at h1; rw [h1, h2]
@[congr] theorem runOps_cong {ops : Array Oper} {l : List Oper} {K : TS → Heap → Prop} {ts ts' : TS} {m m' : Heap} (h1 : mk ts = ts') (h2 : m = m') : runOps P G N ops l ts m K = runOps P G N ops l ts' m' K := by rw [mk_id] at h1; rw [h1, h2]
@[congr] theorem D.run_cong {d d' : D} {K : AVal → Heap → Prop} {m m' : Heap} (h1 : mk d = d') (h2 : m = m') : d.run m K = d'.run m' K := by rw [mk_id] at h1; rw [h1, h2]
@[congr] theorem AWP_cong {c : Code} {Q : Exit → TS → Heap → Prop} {ts : TS} {m m' : Heap} (h2 : mk m = m') : AWP P G N r c Q ts m = AWP P G N r c Q ts m' := by rw [mk_id] at h2; rw [h2]
@[congr] theorem CallWP_cong {f : FuncId} {args args' : List AVal} {K : AVal → Heap → Prop} {m m' : Heap} (h1 : mk args = args') (h2 : m = m') : CallWP P G f args m K = CallWP P G f args' m' K := by rw [mk_id] at h1; rw [h1, h2]

/-! Code -/
theorem run_skip (Q : Exit → TS → Heap → Prop) (ts : TS) (m : Heap) : run P G N r .skip Q ts m = Q .normal ts m := rfl
theorem run_seq (a b : Code) (Q : Exit → TS → Heap → Prop) (ts : TS) (m : Heap) : run P G N r (.seq a b) Q ts m = run P G N r a (thenA (fun ts' m' => run P G N r b Q ts' m') Q) ts m := rfl
theorem run_plain (id : Nat) (ops : Array Oper) (Q : Exit → TS → Heap → Prop) (ts : TS) (m : Heap) : run P G N r (.region id ops false) Q ts m = runOps P G N ops ops.toList ts m (Q .normal) := rfl
theorem run_drawn (id : Nat) (ops : Array Oper) (Q : Exit → TS → Heap → Prop) (ts : TS) (m : Heap) : run P G N r (.region id ops true) Q ts m = AWP P G N r (.region id ops true) Q ts m := rfl
theorem run_loop (c : Code) (Q : Exit → TS → Heap → Prop) (ts : TS) (m : Heap) : run P G N r (.loop c) Q ts m = AWP P G N r (.loop c) Q ts m := rfl
theorem run_block (id : Nat) (c : Code) (Q : Exit → TS → Heap → Prop) (ts : TS) (m : Heap) : run P G N r (.block id c) Q ts m = run P G N r c (blockA id Q) ts m := rfl
theorem run_exit (id : Nat) (Q : Exit → TS → Heap → Prop) (ts : TS) (m : Heap) : run P G N r (.exit id) Q ts m = Q (.exit id) ts m := rfl
theorem run_ret (Q : Exit → TS → Heap → Prop) (ts : TS) (m : Heap) : run P G N r .ret Q ts m = Q .ret ts m := rfl
def condA (v : AVal) (yes no : Prop) : Prop := match v with
  | .bool t => (t = true → yes) ∧ (t = false → no)
  | _ => False
@[congr] theorem condA_cong {v v' : AVal} {yes no : Prop} (h : mk v = v') : condA v yes no = condA v' yes no := by rw [mk_id] at h; rw [h]
theorem run_cond (c : Operand) (a b : Code) (Q : Exit → TS → Heap → Prop) (ts : TS) (m : Heap) : run P G N r (.cond c a b) Q ts m = condA (ev G ts c) (run P G N r a Q ts m) (run P G N r b Q ts m) := by
  simp only [run, condA]
  generalize ev G ts c = v
  cases v <;> rfl
theorem condA_true (yes no : Prop) : condA (.bool true) yes no = yes := by simp [condA]
theorem condA_false (yes no : Prop) : condA (.bool false) yes no = no := by simp [condA]
theorem condA_bool (t : Bool) (yes no : Prop) (h1 : t = true → yes) (h2 : t = false → no) : condA (.bool t) yes no := ⟨h1, h2⟩
theorem thenA_normal (next : TS → Heap → Prop) (Q : Exit → TS → Heap → Prop) (ts : TS) (m : Heap) : thenA next Q .normal ts m = next ts m := rfl
theorem thenA_ret (next : TS → Heap → Prop) (Q : Exit → TS → Heap → Prop) (ts : TS) (m : Heap) : thenA next Q .ret ts m = Q .ret ts m := rfl
theorem thenA_exit (id : Nat) (next : TS → Heap → Prop) (Q : Exit → TS → Heap → Prop) (ts : TS) (m : Heap) : thenA next Q (.exit id) ts m = Q (.exit id) ts m := rfl
theorem blockA_normal (id : Nat) (Q : Exit → TS → Heap → Prop) (ts : TS) (m : Heap) : blockA id Q .normal ts m = Q .normal ts m := rfl
theorem blockA_ret (id : Nat) (Q : Exit → TS → Heap → Prop) (ts : TS) (m : Heap) : blockA id Q .ret ts m = Q .ret ts m := rfl
theorem blockA_exit (id id' : Nat) (Q : Exit → TS → Heap → Prop) (ts : TS) (m : Heap) : blockA id Q (.exit id') ts m = if id' = id then Q .normal ts m else Q (.exit id') ts m := rfl

/-! Operations -/
theorem runOps_nil (ops : Array Oper) (ts : TS) (m : Heap) (K : TS → Heap → Prop) : runOps P G N ops [] ts m K = K ts m := rfl
theorem runOps_arr (ops : Array Oper) (l : List Oper) (ts : TS) (m : Heap) (K : TS → Heap → Prop) : runOps P G N ops l.toArray.toList ts m K = runOps P G N ops l ts m K := rfl
/-- An operation with no guard. -/
theorem runOps_cons (ops : Array Oper) (d : Option Nat) (op : Op) (t : TypeId) (pos : String) (af : Array Edge) (rest : List Oper) (ts : TS) (m : Heap) (K : TS → Heap → Prop) :
    runOps P G N ops ({ dst := d, op := op, type := t, pos := pos, after := af, guard := none } :: rest) ts m K = (dstOk N d ∧ opGo P G (ev G ts) op m fun v m' => runOps P G N ops rest (put ts d v) m' K) := rfl
theorem dstOk_none : dstOk N none = True := rfl
theorem dstOk_some (d : Nat) : dstOk N (some d) = (d < N) := rfl
variable {e : Operand → AVal} {m : Heap} {K : AVal → Heap → Prop}
theorem go_move (x : Operand) : opGo P G e (.move x) m K = K (e x) m := by simp only [opGo, callOf, specOf, den, D.run, true_and]
theorem go_assign (x : Operand) : opGo P G e (.assign x) m K = K (e x) m := by simp only [opGo, callOf, specOf, den, D.run, true_and]
theorem go_pick (c a b : Operand) : opGo P G e (.pick c a b) m K = (apk (e c) (e a) (e b)).run m K := rfl
theorem go_alloc (t : TypeId) : opGo P G e (.alloc t) m K = (aalloc P t).run m K := rfl
theorem go_box (t : TypeId) (v : Operand) : opGo P G e (.box t v) m K = (abox t (e v)).run m K := rfl
theorem go_build (t : TypeId) (ps : Array (Nat × Operand)) : opGo P G e (.build t ps) m K = (abuild P t (ps.toList.map fun p => (p.1, e p.2))).run m K := rfl
theorem go_buildSlice (t : TypeId) (n : Nat) (ps : Array (Nat × Operand)) : opGo P G e (.buildSlice t n ps) m K = (abuildSlice P t n (ps.toList.map fun p => (p.1, e p.2))).run m K := rfl
theorem go_load (t : TypeId) (a : Operand) : opGo P G e (.load t a) m K = (aload P t (e a)).run m K := rfl
theorem go_store (t : TypeId) (a v : Operand) : opGo P G e (.store t a v) m K = (astore P t (e a) (e v)).run m K := rfl
theorem go_nilCheck (x : Operand) : opGo P G e (.nilCheck x) m K = (anil (e x)).run m K := rfl
theorem go_binOp (op : BinOp) (t : TypeId) (x y : Operand) (t' : TypeId) : opGo P G e (.binOp op t x y t') m K = (abin P op t (e x) (e y)).run m K := rfl
theorem go_unOp (op : UnOp) (t : TypeId) (x : Operand) : opGo P G e (.unOp op t x) m K = (aun op (e x)).run m K := rfl
theorem go_convert (s d : TypeId) (x : Operand) : opGo P G e (.convert s d x) m K = (aconv P s d (e x)).run m K := rfl
theorem go_iface (t : TypeId) (x : Operand) : opGo P G e (.makeInterface t x) m K = (aiface P t (e x)).run m K := rfl
theorem go_makeFunc (fn : Fn) (fs cs : Array Operand) : opGo P G e (.makeFunc fn fs cs) m K = K (.func fn (fs.toList.map e) (cs.toList.map e)) m := by simp only [opGo, callOf, specOf, den, D.run, true_and]
theorem go_makeSlice (t : TypeId) (l c : Operand) : opGo P G e (.makeSlice t l c) m K = (amake P t (e l) (e c)).run m K := rfl
theorem go_slice (t : TypeId) (x : Operand) (lo hi mx : Option Operand) : opGo P G e (.slice t x lo hi mx) m K = (aslice P t (e x) (lo.map e) (hi.map e) (mx.map e)).run m K := rfl
theorem go_fieldAddr (t : TypeId) (x : Operand) (f : Nat) : opGo P G e (.fieldAddr t x f) m K = (afieldAddr P t f (e x)).run m K := rfl
theorem go_field (t : TypeId) (x : Operand) (f : Nat) : opGo P G e (.field t x f) m K = (afield P t f (e x)).run m K := rfl
theorem go_indexAddr (t : TypeId) (x i : Operand) : opGo P G e (.indexAddr t x i) m K = (aindexAddr P t (e x) (e i)).run m K := rfl
theorem go_index (t : TypeId) (x i : Operand) : opGo P G e (.index t x i) m K = (aindex P t (e x) (e i)).run m K := rfl
theorem go_extract (x : Operand) (i : Nat) : opGo P G e (.extract x i) m K = (aextract i (e x)).run m K := rfl
theorem go_builtin (b : Builtin) (as : Array Operand) (ts : Array TypeId) : opGo P G e (.call { callee := .builtin b, args := as, argTypes := ts }) m K = (abuiltin P b ts.toList (as.toList.map e)).run m K := rfl
/-- A call, by what is called. -/
def callV (P : Program) (G : Nat → AVal) (f : AVal) (args : List AVal) (m : Heap) (K : AVal → Heap → Prop) : Prop := match f with
  | .func (.func g) fs cs => CallWP P G g (fs ++ args ++ cs) m K
  | .func (.yield l) [] [] => YieldWP P G l args m K
  | _ => False
@[congr] theorem callV_cong {f f' : AVal} {args args' : List AVal} {K : AVal → Heap → Prop} {m m' : Heap} (h0 : mk f = f') (h1 : args = args') (h2 : m = m') : callV P G f args m K = callV P G f' args' m' K := by rw [mk_id] at h0; rw [h0, h1, h2]
theorem go_call (f : Operand) (as : Array Operand) (ts : Array TypeId) : opGo P G e (.call { callee := .value f, args := as, argTypes := ts }) m K = callV P G (e f) (as.toList.map e) m K := by
  unfold opGo callV
  simp only [callOf, specOf]
  cases hf : e f <;> try rfl
  rename_i fn fs cs
  cases fn <;> try rfl
  cases fs <;> try rfl
  cases cs <;> rfl
theorem callV_yield (l : Nat) (args : List AVal) : callV P G (.func (.yield l) [] []) args m K = YieldWP P G l args m K := rfl
/-- A call through an interface, by what is in it. -/
def invV (P : Program) (G : Nat → AVal) (f : AVal) (name : String) (args : List AVal) (m : Heap) (K : AVal → Heap → Prop) : Prop := match f with
  | .iface t v => SpecWP P G (.inv t v name) args m K
  | _ => False
@[congr] theorem invV_cong {f f' : AVal} {name : String} {args args' : List AVal} {K : AVal → Heap → Prop} {m m' : Heap} (h0 : mk f = f') (h1 : args = args') (h2 : m = m') : invV P G f name args m K = invV P G f' name args' m' K := by rw [mk_id] at h0; rw [h0, h1, h2]
theorem go_invoke (f : Operand) (name : String) (as : Array Operand) (ts : Array TypeId) : opGo P G e (.call { callee := .invoke f name, args := as, argTypes := ts }) m K = invV P G (e f) name (as.toList.map e) m K := by
  unfold opGo invV
  simp only [callOf, specOf]
  cases hf : e f <;> rfl
theorem invV_iface (t : TypeId) (v : AVal) (name : String) (args : List AVal) : invV P G (.iface t v) name args m K = SpecWP P G (.inv t v name) args m K := rfl
@[congr] theorem YieldWP_cong {l : Nat} {args args' : List AVal} {K : AVal → Heap → Prop} {m m' : Heap} (h1 : mk args = args') (h2 : m = m') : YieldWP P G l args m K = YieldWP P G l args' m' K := by rw [mk_id] at h1; rw [h1, h2]
@[congr] theorem SpecWP_cong {t : TypeId} {v v' : AVal} {name : String} {args args' : List AVal} {K : AVal → Heap → Prop} {m m' : Heap} (h0 : mk v = v') (h1 : args = args') (h2 : m = m') : SpecWP P G (.inv t v name) args m K = SpecWP P G (.inv t v' name) args' m' K := by rw [mk_id] at h0; rw [h0, h1, h2]
theorem SpecWP.method {t : TypeId} {v : AVal} {name : String} {f : FuncId} {args : List AVal} (hm : MethodIs P t name f) (h : CallWP P G f (v :: args) m K) : SpecWP P G (.inv t v name) args m K := ⟨f, hm, h⟩
theorem isYield {l : Nat} {args : List AVal} (h : YieldWP P G l args m K) : YieldWP P G l args m K := h
theorem isSpec {t : TypeId} {v : AVal} {name : String} {args : List AVal} (h : SpecWP P G (.inv t v name) args m K) : SpecWP P G (.inv t v name) args m K := h
theorem callV_func (g : FuncId) (fs cs args : List AVal) : callV P G (.func (.func g) fs cs) args m K = CallWP P G g (fs ++ args ++ cs) m K := rfl

/-! What an operation comes to -/
theorem run_fail : D.fail.run m K = False := rfl
theorem run_pure' (c : Prop) (v : AVal) : (D.pure c v).run m K = Need c (K v m) := rfl
def readA (x : Option ABlk) (c : ABlk → Prop) (k : ABlk → Prop) : Prop := match x with
  | some y => c y ∧ k y
  | none => False
@[congr] theorem readA_cong {x x' : Option ABlk} {c k : ABlk → Prop} (h : mk x = x') : readA x c k = readA x' c k := by rw [mk_id] at h; rw [h]
theorem readA_some (y : ABlk) (c k : ABlk → Prop) : readA (some y) c k = Need (c y) (k y) := rfl
theorem run_read (p : Nat) (c : ABlk → Prop) (f : ABlk → AVal) : (D.read p c f).run m K = readA (m p) c (fun x => K (f x) m) := by
  simp only [D.run, readA]
  cases m p <;> rfl
theorem run_alloc (c : Prop) (x : ABlk) (mk : Nat → AVal) : (D.alloc c x mk).run m K = Need c (Al m fun b => K (mk b) (hupd m b x)) := rfl
theorem run_write (p : Nat) (c : ABlk → Prop) (f : ABlk → ABlk) (v : AVal) : (D.write p c f v).run m K = readA (m p) c (fun x => K v (hupd m p (f x))) := by
  simp only [D.run, readA]
  cases m p <;> rfl
theorem upd_at (ts : TS) (d i : Nat) (v : AVal) : upd ts d v i = if i = d then v else ts i := rfl
theorem upd_eq (ts : TS) (d : Nat) (v : AVal) : upd ts d v d = v := by simp [upd]
theorem put_some (ts : TS) (d : Nat) (v : AVal) : put ts (some d) v = upd ts d v := rfl
theorem put_none (ts : TS) (v : AVal) : put ts none v = ts := rfl
theorem hupd_hupd (m : Heap) (b : Nat) (x y : ABlk) : hupd (hupd m b x) b y = hupd m b y := by
  funext i; simp only [hupd]; split <;> rfl
theorem hupd_none' {m : Heap} {b c : Nat} {x : ABlk} : hupd m b x c = none ↔ (c ≠ b ∧ b ≠ c) ∧ m c = none := by
  rw [hupd_none]; exact ⟨fun h => ⟨⟨h.1, Ne.symm h.1⟩, h.2⟩, fun h => ⟨h.1.1, h.2⟩⟩
theorem hupd_at (m : Heap) (b p : Nat) (x : ABlk) : hupd m b x p = if p = b then some x else m p := rfl
end
end Go.Proofs.Ytcdhihoghkkahaa.Ab
