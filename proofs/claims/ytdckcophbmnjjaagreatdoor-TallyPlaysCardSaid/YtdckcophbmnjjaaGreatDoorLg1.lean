/- An abstract view of Go's memory: values with lists in place of what is only read, blocks that a call owns, and how both stand to the model's world. What each operation comes to in the abstract view, and that the model's own operation comes to the same: values, and what is read. Operations, part two: what makes a block, and what writes into one; structs and arrays as values. Operations, part three: fields, elements, slices of slices, numbers. -/
import Derived.CallsIn
import Derived.RangeFuncLeaves
import Derived.Laws.Sem
import Derived.Laws.World
import Derived.Laws.Cells
import Derived.Laws.Entries
import Derived.Laws.CopyRow
set_option linter.all false
namespace Go.Proofs.YtdckcophbmnjjaaGreatDoor.Ab
open Go

/-- An abstract value. 'undef' says nothing; 'list' and 'rptr' are what is only read. -/
inductive AVal where
  | undef
  | bool (b : Bool)
  | int (k : IntKind) (n : Int)
  | str (s : ByteArray)
  | nilp
  | ptr (b o : Nat)
  | rptr (cs : List AVal) (o : Nat)
  | nils
  | slice (b o len cap : Nat)
  | list (sz : Nat) (xs : List AVal)
  | nilmap
  | map (b : Nat)
  | func (fn : Fn) (first captured : List AVal)
  | nilf
  | iface (t : TypeId) (v : AVal)
  | nili
  | agg (cs : List AVal)
  | tuple (vs : List AVal)

def AVal.cells : AVal → List AVal
  | .agg cs => cs
  | v => [v]

/-- What a block holds: cells, of which the first ones are told; a map, by its entries; whatever object; the record of a loop over a function. -/
inductive ABlk where
  | cells (cs : List AVal) (N : Nat)
  | map (es : List (Int × AVal)) (bs : List Nat) (cl : Nat)
  | obj (o : Obj)
  | loop (N : Nat) (ts : Nat → AVal) (ps : Array Tmp) (assign body : Code) (st : LoopState) (pe : Option Code)

abbrev Heap := Nat → Option ABlk
abbrev TS := Nat → AVal

def hupd (m : Heap) (b : Nat) (x : ABlk) : Heap := fun i => if i = b then some x else m i
def hdel (m : Heap) (b : Nat) : Heap := fun i => if i = b then none else m i
def upd (ts : TS) (d : Nat) (v : AVal) : TS := fun i => if i = d then v else ts i
def put (ts : TS) (d : Option Nat) (v : AVal) : TS := match d with
  | some d => upd ts d v
  | none => ts

inductive VRel (m : Heap) (w : World) : AVal → Value → Prop where
  | undef (v : Value) : VRel m w .undef v
  | bool (b : Bool) : VRel m w (.bool b) (.bool b)
  | int (k : IntKind) (n : Int) : VRel m w (.int k n) (.int k n)
  | str (s : ByteArray) : VRel m w (.str s) (.string s)
  | nilp : VRel m w .nilp (.pointer none)
  | ptr (b o : Nat) : VRel m w (.ptr b o) (.pointer (some ⟨b, o, none⟩))
  | rptr (cs : List AVal) (o b off : Nat) (f : Nat → Value) (hm : m b = none) (hb : b < w.heap.size)
      (hc : ∀ i, i < cs.length → w.cell? ⟨b, off + i, none⟩ = some (f i)) (hv : ∀ i, i < cs.length → VRel m w (cs.getD i .undef) (f i)) :
      VRel m w (.rptr cs o) (.pointer (some ⟨b, off + o, none⟩))
  | nils : VRel m w .nils (.slice none 0 0)
  | slice (b o len cap : Nat) : VRel m w (.slice b o len cap) (.slice (some ⟨b, o, none⟩) len cap)
  | list0 (sz : Nat) (a : Option Addr) (cap : Nat) : VRel m w (.list sz []) (.slice a 0 cap)
  | list (sz : Nat) (xs : List AVal) (b off cap : Nat) (f : Nat → Nat → Value) (hm : m b = none) (hb : b < w.heap.size) (hcap : xs.length ≤ cap)
      (hsz : ∀ i, i < xs.length → (xs.getD i .undef).cells.length = sz)
      (hc : ∀ i j, i < xs.length → j < sz → w.cell? ⟨b, off + (i * sz + j), none⟩ = some (f i j))
      (hv : ∀ i j, i < xs.length → j < sz → VRel m w ((xs.getD i .undef).cells.getD j .undef) (f i j)) :
      VRel m w (.list sz xs) (.slice (some ⟨b, off, none⟩) xs.length cap)
  | nilmap : VRel m w .nilmap (.map none)
  | map (b : Nat) : VRel m w (.map b) (.map (some b))
  | func (fn : Fn) (fs cs : List AVal) (fs' cs' : Array Value) (h1 : fs.length = fs'.size) (h2 : cs.length = cs'.size)
      (hf : ∀ i, i < fs.length → VRel m w (fs.getD i .undef) (fs'.getD i Go.undef)) (hc : ∀ i, i < cs.length → VRel m w (cs.getD i .undef) (cs'.getD i Go.undef)) :
      VRel m w (.func fn fs cs) (.func fn fs' cs')
  | nilf : VRel m w .nilf .nilFunc
  | iface (t : TypeId) (v : AVal) (x : Value) (h : VRel m w v x) : VRel m w (.iface t v) (.iface t x)
  | nili : VRel m w .nili .nilIface
  | agg (cs : List AVal) (vs : Array Value) (h : cs.length = vs.size) (hv : ∀ i, i < cs.length → VRel m w (cs.getD i .undef) (vs.getD i Go.undef)) : VRel m w (.agg cs) (.agg vs)
  | tuple (cs : List AVal) (vs : Array Value) (h : cs.length = vs.size) (hv : ∀ i, i < cs.length → VRel m w (cs.getD i .undef) (vs.getD i Go.undef)) : VRel m w (.tuple cs) (.tuple vs)

/-- From one state to a later one: what is owned may have turned, what is not has not. -/
structure Ext (m : Heap) (w : World) (m' : Heap) (w' : World) : Prop where
  size : w.heap.size ≤ w'.heap.size
  os : w'.os = w.os
  tape : w'.tape = w.tape
  output : w'.output = w.output ∧ w.drawn ≤ w'.drawn
  keep : ∀ b, b < w.heap.size → m b = none → w'.heap[b]? = w.heap[b]? ∧ m' b = none

theorem Ext.refl (m : Heap) (w : World) : Ext m w m w := ⟨Nat.le_refl _, rfl, rfl, ⟨rfl, Nat.le_refl _⟩, fun _ _ h => ⟨rfl, h⟩⟩
theorem Ext.trans {m m1 m2 : Heap} {w w1 w2 : World} (h : Ext m w m1 w1) (k : Ext m1 w1 m2 w2) : Ext m w m2 w2 :=
  ⟨Nat.le_trans h.size k.size, k.os.trans h.os, k.tape.trans h.tape, ⟨k.output.1.trans h.output.1, Nat.le_trans h.output.2 k.output.2⟩, fun b hb hm => by
    obtain ⟨h1, h2⟩ := h.keep b hb hm
    obtain ⟨k1, k2⟩ := k.keep b (Nat.lt_of_lt_of_le hb h.size) h2
    exact ⟨k1.trans h1, k2⟩⟩

theorem cell_of_heap {w w' : World} {a : Addr} (h : w'.heap[a.block]? = w.heap[a.block]?) : w'.cell? a = w.cell? a := by
  unfold World.cell?; rw [h]

theorem VRel.ext {m m' : Heap} {w w' : World} {v : AVal} {x : Value} (h : VRel m w v x) (e : Ext m w m' w') : VRel m' w' v x := by
  induction h with
  | undef v => exact .undef v
  | bool b => exact .bool b
  | int k n => exact .int k n
  | str s => exact .str s
  | nilp => exact .nilp
  | ptr b o => exact .ptr b o
  | rptr cs o b off f hm hb hc _ ih =>
    obtain ⟨k1, k2⟩ := e.keep b hb hm
    exact .rptr cs o b off f k2 (Nat.lt_of_lt_of_le hb e.size) (fun i hi => (cell_of_heap (a := ⟨b, off + i, none⟩) k1).trans (hc i hi)) ih
  | nils => exact .nils
  | slice b o len cap => exact .slice b o len cap
  | list0 sz a cap => exact .list0 sz a cap
  | list sz xs b off cap f hm hb hcap hsz hc _ ih =>
    obtain ⟨k1, k2⟩ := e.keep b hb hm
    exact .list sz xs b off cap f k2 (Nat.lt_of_lt_of_le hb e.size) hcap hsz (fun i j hi hj => (cell_of_heap (a := ⟨b, off + (i * sz + j), none⟩) k1).trans (hc i j hi hj)) ih
  | nilmap => exact .nilmap
  | map b => exact .map b
  | func fn fs cs fs' cs' h1 h2 _ _ ih1 ih2 => exact .func fn fs cs fs' cs' h1 h2 ih1 ih2
  | nilf => exact .nilf
  | iface t v x _ ih => exact .iface t v x ih
  | nili => exact .nili
  | agg cs vs h _ ih => exact .agg cs vs h ih
  | tuple cs vs h _ ih => exact .tuple cs vs h ih

/-- What is owned in m is as m says, in w. -/
def BRel (m : Heap) (w : World) : ABlk → Option Obj → Prop
  | .cells cs N, o => ∃ arr ty, o = some (.cells arr ty (0, 0)) ∧ arr.size = N ∧ cs.length ≤ N ∧ ∀ i, i < cs.length → VRel m w (cs.getD i .undef) (arr.getD i Go.undef)
  | .map es bs cl, o => ∃ ents : Array MapEntry, o = some (.map ents cl) ∧ ents.toList.map (·.born) = bs ∧ (∀ b, b ∈ bs → b < cl) ∧ bs.Nodup ∧
      ents.size = es.length ∧ (es.map (·.1)).Nodup ∧ ∀ i, i < es.length → ((ents.getD i default).key = .int .i64 (es.getD i (0, .undef)).1 ∧ VRel m w (es.getD i (0, .undef)).2 (ents.getD i default).val)
  | .obj o', o => o = some o'
  | .loop N ts ps a b st pe, o => ∃ fn tmps D, o = some (.loop { state := st, pending := pe, fn, tmps, params := ps, assign := a, body := b, defers := D }) ∧ tmps.size = N ∧ ∀ t, VRel m w (ts t) (tmps.getD t Go.undef)

def Sat (m : Heap) (w : World) : Prop := ∀ b x, m b = some x → BRel m w x w.heap[b]?

theorem BRel.some {m : Heap} {w : World} {x : ABlk} {o : Option Obj} (h : BRel m w x o) : ∃ y, o = some y := by
  cases x with
  | cells cs N => obtain ⟨arr, ty, h, _⟩ := h; exact ⟨_, h⟩
  | map es bs cl => obtain ⟨a, h, _⟩ := h; exact ⟨_, h⟩
  | obj o' => exact ⟨_, h⟩
  | loop N ts ps a b st pe => obtain ⟨_, _, _, h, _⟩ := h; exact ⟨_, h⟩
theorem Sat.lt {m : Heap} {w : World} (h : Sat m w) {b : Nat} {x : ABlk} (hb : m b = some x) : b < w.heap.size := by
  obtain ⟨y, hy⟩ := (h b x hb).some
  exact (Array.getElem?_eq_some_iff.1 hy).1
theorem Sat.fresh {m : Heap} {w : World} (h : Sat m w) : m w.heap.size = none := by
  cases hm : m w.heap.size with
  | none => rfl
  | some x => exact absurd (h.lt hm) (Nat.lt_irrefl _)
theorem BRel.ext {m m' : Heap} {w w' : World} {x : ABlk} {o : Option Obj} (h : BRel m w x o) (e : Ext m w m' w') : BRel m' w' x o := by
  cases x with
  | cells cs N => obtain ⟨arr, ty, h1, h2, h3, h4⟩ := h; exact ⟨arr, ty, h1, h2, h3, fun i hi => (h4 i hi).ext e⟩
  | map es bs cl => obtain ⟨a, h1, h2, h3, h4, h5, h6, h7⟩ := h; exact ⟨a, h1, h2, h3, h4, h5, h6, fun i hi => ⟨(h7 i hi).1, (h7 i hi).2.ext e⟩⟩
  | obj o' => exact h
  | loop N ts ps a b st pe => obtain ⟨fn, tmps, D, h1, h2, h3⟩ := h; exact ⟨fn, tmps, D, h1, h2, fun t => (h3 t).ext e⟩

/-- The deferred calls' blocks of an activation that ranged over functions: each was laid behind B, and is empty. -/
def DefOK (B : Nat) (m : Heap) (w : World) : List Deferred → Prop
  | [] => True
  | d :: ds => (∃ D, d = { target := .collected D, args := #[] } ∧ B ≤ D ∧ m D = none ∧ w.heap[D]? = some (.deferred (some [])) ∧ ∀ d', d' ∈ ds → d' ≠ { target := .collected D, args := #[] }) ∧ DefOK B m w ds
theorem DefOK.ext {B : Nat} {m m' : Heap} {w w' : World} (e : Ext m w m' w') : ∀ {ds : List Deferred}, DefOK B m w ds → DefOK B m' w' ds
  | [], _ => trivial
  | d :: ds, h => by
    obtain ⟨⟨D, h1, h0, h2, h3, h5⟩, h4⟩ := h
    obtain ⟨k1, k2⟩ := e.keep D (Array.getElem?_eq_some_iff.1 h3).1 h2
    exact ⟨⟨D, h1, h0, k2, k1.trans h3, h5⟩, h4.ext e⟩

structure TRel (N : Nat) (m : Heap) (w : World) (ts : TS) (a : Act) : Prop where
  size : a.tmps.size = N
  vals : ∀ t, VRel m w (ts t) (a.tmps.getD t Go.undef)
theorem TRel.ext {N : Nat} {m m' : Heap} {w w' : World} {ts : TS} {a : Act} (h : TRel N m w ts a) (e : Ext m w m' w') : TRel N m' w' ts a :=
  ⟨h.size, fun t => (h.vals t).ext e⟩
theorem TRel.put {N : Nat} {m : Heap} {w : World} {ts : TS} {a : Act} (h : TRel N m w ts a) {d : Option Nat} (hd : ∀ i, d = some i → i < N) {v : AVal} {x : Value} (hv : VRel m w v x) :
    TRel N m w (put ts d v) (a.put d x) := by
  cases d with
  | none => exact h
  | some d =>
    have hlt := hd d rfl
    refine ⟨by simp [Act.put, h.size], fun t => ?_⟩
    have hs := h.size
    by_cases e : t = d
    · subst e
      have : (a.put (some t) x).tmps.getD t Go.undef = x := by
        simp only [Act.put, Array.getD_eq_getD_getElem?]
        rw [Array.getElem?_setIfInBounds_self_of_lt (by omega)]; rfl
      rw [this]; simpa [Ab.put, upd] using hv
    · have : (a.put (some d) x).tmps.getD t Go.undef = a.tmps.getD t Go.undef := by
        simp only [Act.put, Array.getD_eq_getD_getElem?]
        rw [Array.getElem?_setIfInBounds_ne (fun h => e h.symm)]
      rw [this]; simpa [Ab.put, upd, e] using h.vals t

/-- An operand's abstract value. A constant's cells are plain. -/
def ofCell : Value → AVal
  | .bool b => .bool b
  | .int k n => .int k n
  | .string s => .str s
  | .pointer none => .nilp
  | .slice none 0 0 => .nils
  | .map none => .nilmap
  | .nilFunc => .nilf
  | .nilIface => .nili
  | _ => .undef
def ofValue : Value → AVal
  | .agg cs => .agg (cs.toList.map ofCell)
  | .tuple vs => if vs.size = 0 then .tuple [] else .undef
  | .func fn fs cs => if fs.size = 0 ∧ cs.size = 0 then .func fn [] [] else .undef
  | v => ofCell v
theorem ofCell_rel (m : Heap) (w : World) (v : Value) : VRel m w (ofCell v) v := by
  unfold ofCell
  split <;> constructor
theorem ofValue_rel (m : Heap) (w : World) (v : Value) : VRel m w (ofValue v) v := by
  unfold ofValue
  split
  · rename_i cs
    refine .agg _ _ (by simp) (fun i hi => ?_)
    have hi' : i < cs.size := by simpa using hi
    have e1 : (List.map ofCell cs.toList).getD i .undef = ofCell (cs.getD i Go.undef) := by
      simp [List.getD_eq_getElem?_getD, Array.getD_eq_getD_getElem?, hi']
    rw [e1]; exact ofCell_rel m w _
  · rename_i vs
    split
    · rename_i h; exact .tuple [] vs (by simpa using h.symm) (fun i hi => by simp at hi)
    · exact .undef _
  · rename_i fn fs cs
    split
    · rename_i h; exact .func fn [] [] fs cs (by simpa using h.1.symm) (by simpa using h.2.symm) (fun i hi => by simp at hi) (fun i hi => by simp at hi)
    · exact .undef _
  · exact ofCell_rel m w _

def ev (G : Nat → AVal) (ts : TS) : Operand → AVal
  | .tmp t => ts t
  | .const v => ofValue v
  | .global g => G g
  | .func f => .func (.func f) [] []
/-- What is known of package-level variables' addresses. -/
def GOk (G : Nat → AVal) (m : Heap) (w : World) : Prop := ∀ g, VRel m w (G g) (.pointer (some ⟨g, 0, none⟩))
theorem GOk.ext {G : Nat → AVal} {m m' : Heap} {w w' : World} (h : GOk G m w) (e : Ext m w m' w') : GOk G m' w' := fun g => (h g).ext e
theorem ev_rel {G : Nat → AVal} {N : Nat} {m : Heap} {w : World} {ts : TS} {a : Act} (hg : GOk G m w) (h : TRel N m w ts a) (x : Operand) : VRel m w (ev G ts x) (a.eval x) := by
  cases x with
  | tmp t => exact h.vals t
  | const v => exact ofValue_rel m w v
  | global g => exact hg g
  | func f => exact .func (.func f) [] [] #[] #[] rfl rfl (fun i hi => by simp at hi) (fun i hi => by simp at hi)

end Go.Proofs.YtdckcophbmnjjaaGreatDoor.Ab
namespace Go.Proofs.YtdckcophbmnjjaaGreatDoor.Ab
open Go

/-- What an operation does. -/
inductive D where
  | fail
  | pure (c : Prop) (v : AVal)
  | read (p : Nat) (c : ABlk → Prop) (f : ABlk → AVal)
  | alloc (c : Prop) (x : ABlk) (mk : Nat → AVal)
  | write (p : Nat) (c : ABlk → Prop) (f : ABlk → ABlk) (v : AVal)
  | eff (T : Heap → (AVal → Heap → Prop) → Prop)

/-- The model's operation ends in a value that is told, in a world that goes with the heap. -/
def Ends (P : Program) (s : Sem Value) (w : World) (m : Heap) (K : AVal → Heap → Prop) : Prop :=
  ∃ x w' v m', s.run P w = .ok x w' ∧ K v m' ∧ VRel m' w' v x ∧ Sat m' w' ∧ Ext m w m' w'
theorem Ends.here {P : Program} {s : Sem Value} {w : World} {m : Heap} {K : AVal → Heap → Prop} {x : Value} {v : AVal} (hs : Sat m w) (h : s.run P w = .ok x w) (hK : K v m) (hv : VRel m w v x) : Ends P s w m K :=
  ⟨x, w, v, m, h, hK, hv, hs, Ext.refl _ _⟩

/-! ### Values -/
theorem VRel.cells {m : Heap} {w : World} {v : AVal} {x : Value} (h : VRel m w v x) (hn : v ≠ .undef) :
    v.cells.length = x.cells.size ∧ ∀ i, i < v.cells.length → VRel m w (v.cells.getD i .undef) (x.cells.getD i Go.undef) := by
  have one : ∀ (v : AVal) (x : Value), v.cells = [v] → x.cells = #[x] → VRel m w v x →
      v.cells.length = x.cells.size ∧ ∀ i, i < v.cells.length → VRel m w (v.cells.getD i .undef) (x.cells.getD i Go.undef) := by
    intro v x h1 h2 h
    rw [h1, h2]
    refine ⟨rfl, fun i hi => ?_⟩
    have : i = 0 := by simp at hi; exact hi
    subst this; simpa using h
  cases h with
  | undef v => exact absurd rfl hn
  | agg cs vs h1 h2 => exact ⟨h1, h2⟩
  | _ => refine one _ _ rfl rfl ?_; constructor <;> assumption

/-- A value that lies in one cell. -/
def AVal.flat : AVal → Bool
  | .undef | .agg _ | .tuple _ => false
  | _ => true
theorem VRel.oneCell {m : Heap} {w : World} {v : AVal} {x : Value} (h : VRel m w v x) (hf : v.flat = true) : x.oneCell' = true := by
  cases h <;> first | rfl | (simp [AVal.flat] at hf)

def isAggD : TypeDesc → Bool
  | .struct _ | .array _ _ => true
  | _ => false
/-- Is a type's value an aggregate, and how many cells has it? -/
def tk (P : Program) (t : TypeId) : Option (Bool × Nat) :=
  match P.underlying t, P.info? t with
  | some d, some i => some (isAggD d, i.size)
  | _, _ => none
theorem run_isAgg {P : Program} {t : TypeId} {a : Bool} {n : Nat} (h : tk P t = some (a, n)) (w : World) : (isAgg t).run P w = .ok a w := by
  unfold tk at h
  split at h
  · rename_i d i hd hi
    simp only [Option.some.injEq, Prod.mk.injEq] at h
    unfold isAgg underlying
    simp only [Sem.run_bind, run_program, Result.andThen_ok, hd]
    simp only [Sem.run_pure, Result.andThen_ok]
    rw [← h.1]
    cases d <;> simp [isAggD]
  · simp at h
theorem run_sizeOf' {P : Program} {t : TypeId} {a : Bool} {n : Nat} (h : tk P t = some (a, n)) (w : World) : (sizeOf t).run P w = .ok n w := by
  unfold tk at h
  split at h
  · rename_i d i hd hi
    simp only [Option.some.injEq, Prod.mk.injEq] at h
    unfold sizeOf typeInfo
    simp [Sem.run_bind, hi, h.2]
  · simp at h

/-! ### Reading cells -/
def rcell (a : Bool) (n : Nat) (cs : List AVal) (o : Nat) : AVal := if a then .agg ((cs.drop o).take n) else cs.getD o .undef
def rok (a : Bool) (n : Nat) (cs : List AVal) (o : Nat) : Prop := if a then o + n ≤ cs.length else o < cs.length
theorem addr_add (b o j : Nat) : (⟨b, o, none⟩ : Addr).add j = ⟨b, o + j, none⟩ := by
  unfold Addr.add; split <;> simp_all
theorem run_loadCells' {P : Program} {m : Heap} {w : World} (b off o n : Nat) (cs : List AVal) (hok : o + n ≤ cs.length)
    (hc : ∀ i, i < cs.length → ∃ x, w.cell? ⟨b, off + i, none⟩ = some x ∧ VRel m w (cs.getD i .undef) x) :
    ∃ xs : Array Value, (loadCells ⟨b, off + o, none⟩ n).run P w = .ok xs w ∧ xs.size = n ∧ ∀ i, i < n → VRel m w (((cs.drop o).take n).getD i .undef) (xs.getD i Go.undef) := by
  have hx : ∀ j, j < n → ∃ x, w.cell? ((⟨b, off + o, none⟩ : Addr).add j) = some x ∧ VRel m w (cs.getD (o + j) .undef) x := by
    intro j hj; rw [addr_add, Nat.add_assoc]; exact hc (o + j) (by omega)
  let f : Nat → Value := fun j => if h : j < n then (hx j h).choose else Go.undef
  have hf : ∀ j, j < n → w.cell? ((⟨b, off + o, none⟩ : Addr).add j) = some (f j) := by
    intro j hj; simp only [f, hj, dif_pos]; exact (hx j hj).choose_spec.1
  have hr := run_loadCells (P := P) (w := w) ⟨b, off + o, none⟩ n f hf
  refine ⟨_, hr, by simp, fun i hi => ?_⟩
  have := (hx i hi).choose_spec.2
  have e1 : ((cs.drop o).take n).getD i .undef = cs.getD (o + i) .undef := by
    simp [List.getD_eq_getElem?_getD, List.getElem?_take, hi, List.getElem?_drop]
  rw [e1]
  have e3 : f i = (hx i hi).choose := by simp only [f, hi, dif_pos]
  simp [Array.getD_eq_getD_getElem?, hi]
  rw [e3]; simpa using this
theorem run_loadVar {P : Program} {m : Heap} {w : World} {t : TypeId} {a : Bool} {n : Nat} (ht : tk P t = some (a, n)) (b off o : Nat) (cs : List AVal) (hok : rok a n cs o)
    (hc : ∀ i, i < cs.length → ∃ x, w.cell? ⟨b, off + i, none⟩ = some x ∧ VRel m w (cs.getD i .undef) x) :
    ∃ x, (loadVar t ⟨b, off + o, none⟩).run P w = .ok x w ∧ VRel m w (rcell a n cs o) x := by
  unfold loadVar
  simp only [Sem.run_bind, run_isAgg ht, Result.andThen_ok]
  cases a with
  | false =>
    simp only [rok, Bool.false_eq_true, if_false] at hok
    obtain ⟨x, h1, h2⟩ := hc o hok
    refine ⟨x, ?_, ?_⟩
    · simp [h1]
    · simpa [rcell] using h2
  | true =>
    simp only [rok, if_true] at hok
    obtain ⟨xs, h1, h2, h3⟩ := run_loadCells' (P := P) (m := m) b off o n cs hok hc
    refine ⟨.agg xs, ?_, ?_⟩
    · simp only [if_true, Sem.run_bind, run_sizeOf' ht, Result.andThen_ok, h1]; rfl
    · refine .agg _ _ (by simp [h2]; omega) (fun i hi => ?_)
      exact h3 i (by simp at hi; omega)

theorem cells_at {m : Heap} {w : World} {b : Nat} {cs : List AVal} {N : Nat} (h : BRel m w (.cells cs N) w.heap[b]?) :
    ∀ i, i < cs.length → ∃ x, w.cell? ⟨b, 0 + i, none⟩ = some x ∧ VRel m w (cs.getD i .undef) x := by
  obtain ⟨arr, ty, h1, h2, h3, h4⟩ := h
  intro i hi
  refine ⟨arr.getD i Go.undef, ?_, h4 i hi⟩
  have : i < arr.size := by omega
  simp [World.cell?, h1, Array.getD_eq_getD_getElem?, this]

def aload (P : Program) (t : TypeId) : AVal → D
  | .ptr b o => match tk P t with
    | some (a, n) => .read b (fun x => match x with | .cells cs _ => rok a n cs o | _ => False) (fun x => match x with | .cells cs _ => rcell a n cs o | _ => .undef)
    | none => .fail
  | .rptr cs o => match tk P t with
    | some (a, n) => .pure (rok a n cs o) (rcell a n cs o)
    | none => .fail
  | _ => .fail

/-- What D says, of the operations that are no calls. -/
def D.run : D → Heap → (AVal → Heap → Prop) → Prop
  | .fail, _, _ => False
  | .pure c v, m, K => c ∧ K v m
  | .read p c f, m, K => match m p with
    | some x => c x ∧ K (f x) m
    | none => False
  | .alloc c x mk, m, K => c ∧ ∀ b, m b = none → K (mk b) (hupd m b x)
  | .write p c f v, m, K => match m p with
    | some x => c x ∧ K v (hupd m p (f x))
    | none => False
  | .eff T, m, K => T m K

/-- D tells what s does. -/
def Tells (P : Program) (d : D) (s : Sem Value) (w : World) (m : Heap) : Prop := ∀ K, d.run m K → Ends P s w m K
theorem tells_fail {P : Program} {s : Sem Value} {w : World} {m : Heap} : Tells P .fail s w m := fun _ h => h.elim
theorem tells_pure {P : Program} {s : Sem Value} {w : World} {m : Heap} {c : Prop} {v : AVal} (hs : Sat m w) (h : c → ∃ x, s.run P w = .ok x w ∧ VRel m w v x) : Tells P (.pure c v) s w m := by
  rintro K ⟨hc, hK⟩
  obtain ⟨x, h1, h2⟩ := h hc
  exact .here hs h1 hK h2
theorem tells_read {P : Program} {s : Sem Value} {w : World} {m : Heap} {p : Nat} {c : ABlk → Prop} {f : ABlk → AVal} (hs : Sat m w)
    (h : ∀ y, m p = some y → c y → ∃ x, s.run P w = .ok x w ∧ VRel m w (f y) x) : Tells P (.read p c f) s w m := by
  intro K hK
  simp only [D.run] at hK
  split at hK
  · rename_i y hy
    obtain ⟨x, h1, h2⟩ := h y hy hK.1
    exact .here hs h1 hK.2 h2
  · exact hK.elim

theorem aload_tells {P : Program} {w : World} {m : Heap} {t : TypeId} {v : AVal} {x : Value} (hs : Sat m w) (hv : VRel m w v x) : Tells P (aload P t v) (Instr.loadAt t x) w m := by
  unfold aload
  split
  · rename_i b o
    split
    · rename_i a n ht
      refine tells_read hs (fun y hy hc => ?_)
      cases y with
      | cells cs N =>
        obtain ⟨x', h1, h2⟩ := run_loadVar (m := m) ht b 0 o cs hc (cells_at (hs b _ hy))
        cases hv
        refine ⟨x', ?_, h2⟩
        simp only [Nat.zero_add] at h1
        simp [Instr.loadAt, Instr.sureAddr, h1]
      | map es bs cl => exact hc.elim
      | obj o => exact hc.elim
      | loop => exact hc.elim
    · exact tells_fail
  · rename_i cs o
    split
    · rename_i a n ht
      refine tells_pure hs (fun hc => ?_)
      cases hv with
      | rptr cs o b off f hm hb hc' hv' =>
        obtain ⟨x', h1, h2⟩ := run_loadVar (m := m) ht b off o cs hc (fun i hi => ⟨f i, hc' i hi, hv' i hi⟩)
        exact ⟨x', by simp [Instr.loadAt, Instr.sureAddr, h1], h2⟩
    · exact tells_fail
  · exact tells_fail

end Go.Proofs.YtdckcophbmnjjaaGreatDoor.Ab
namespace Go.Proofs.YtdckcophbmnjjaaGreatDoor.Ab
open Go

/-! ### A new block -/
theorem alloc_step {m : Heap} {w : World} (hs : Sat m w) (o : Obj) (x : ABlk) (hx : ∀ m' w', Ext m w m' w' → BRel m' w' x (some o)) :
    Sat (hupd m w.heap.size x) (w.alloc o) ∧ Ext m w (hupd m w.heap.size x) (w.alloc o) := by
  have hold : ∀ b, b < w.heap.size → (w.alloc o).heap[b]? = w.heap[b]? := by
    intro b hb
    simp only [World.alloc, Array.getElem?_push]
    rw [if_neg (by omega)]
  have e : Ext m w (hupd m w.heap.size x) (w.alloc o) :=
    ⟨by simp, rfl, rfl, ⟨rfl, Nat.le_refl _⟩, fun b hb hm => ⟨hold b hb, by simp only [hupd]; rw [if_neg (by omega)]; exact hm⟩⟩
  refine ⟨fun b y hy => ?_, e⟩
  simp only [hupd] at hy
  split at hy
  · rename_i hb
    subst hb
    obtain rfl : x = y := by simpa using hy
    have : (w.alloc o).heap[w.heap.size]? = some o := by simp only [World.alloc, Array.getElem?_push, if_true]
    rw [this]; exact hx _ _ e
  · have := hs.lt hy
    rw [hold b this]
    exact (hs b y hy).ext e

theorem tells_alloc {P : Program} {s : Sem Value} {w : World} {m : Heap} {c : Prop} {x : ABlk} {mk : Nat → AVal} (hs : Sat m w)
    (h : c → ∃ o y, s.run P w = .ok y (w.alloc o) ∧ (∀ m' w', Ext m w m' w' → BRel m' w' x (some o)) ∧ VRel (hupd m w.heap.size x) (w.alloc o) (mk w.heap.size) y) : Tells P (.alloc c x mk) s w m := by
  rintro K ⟨hc, hK⟩
  obtain ⟨o, y, h1, h2, h3⟩ := h hc
  obtain ⟨k1, k2⟩ := alloc_step hs o x h2
  exact ⟨y, _, _, _, h1, hK _ hs.fresh, h3, k1, k2⟩

theorem brel_cells {m : Heap} {w : World} (vs : Array Value) (cs : List AVal) (t : TypeId) (h1 : cs.length = vs.size) (h2 : ∀ i, i < cs.length → VRel m w (cs.getD i .undef) (vs.getD i Go.undef)) :
    ∀ m' w', Ext m w m' w' → BRel m' w' (.cells cs cs.length) (some (.cells vs t)) :=
  fun _ _ e => ⟨vs, t, rfl, h1.symm, Nat.le_refl _, fun i hi => (h2 i hi).ext e⟩

/-- A type's zero cells. -/
def zc (P : Program) (t : TypeId) : Option (List AVal) := match P.info? t with
  | some i => match i.zero with
    | some v => match ofValue v with
      | .undef => none
      | z => some z.cells
    | none => none
  | none => none
theorem run_zc {P : Program} {t : TypeId} {cs : List AVal} (h : zc P t = some cs) (w : World) :
    ∃ v, (zeroValue t).run P w = .ok v w ∧ cs.length = v.cells.size ∧ ∀ m w', ∀ i, i < cs.length → VRel m w' (cs.getD i .undef) (v.cells.getD i Go.undef) := by
  unfold zc at h
  split at h
  · rename_i i hi
    split at h
    · rename_i v hv
      refine ⟨v, by unfold zeroValue typeInfo; simp [Sem.run_bind, hi, hv], ?_⟩
      split at h
      · simp at h
      · rename_i hne
        obtain rfl : (ofValue v).cells = cs := by simpa using h
        exact ⟨((ofValue_rel (fun _ => none) w v).cells hne).1, fun m w' => ((ofValue_rel m w' v).cells hne).2⟩
    · simp at h
  · simp at h

def aalloc (P : Program) (t : TypeId) : D := match zc P t with
  | some cs => .alloc True (.cells cs cs.length) (.ptr · 0)
  | none => .fail
theorem aalloc_tells {P : Program} {w : World} {m : Heap} {t : TypeId} (hs : Sat m w) : Tells P (aalloc P t) (Instr.alloc t true (.tuple #[])) w m := by
  unfold aalloc
  split
  · rename_i cs hz
    refine tells_alloc hs (fun _ => ?_)
    obtain ⟨v, h1, h2, h3⟩ := run_zc hz w
    refine ⟨.cells v.cells t, .pointer (some ⟨w.heap.size, 0, none⟩), ?_, brel_cells _ _ _ h2 (h3 m w), .ptr _ _⟩
    simp [Instr.alloc, h1, newVar, newRow]
  · exact tells_fail

def abox (t : TypeId) : AVal → D
  | .undef => .fail
  | v => .alloc True (.cells v.cells v.cells.length) (.ptr · 0)
theorem abox_tells {P : Program} {w : World} {m : Heap} {t : TypeId} {v : AVal} {x : Value} (hs : Sat m w) (hv : VRel m w v x) : Tells P (abox t v) (Instr.box t x) w m := by
  have key : v ≠ .undef → Tells P (.alloc True (.cells v.cells v.cells.length) (.ptr · 0)) (Instr.box t x) w m := by
    intro hne
    refine tells_alloc hs (fun _ => ?_)
    obtain ⟨h1, h2⟩ := hv.cells hne
    refine ⟨.cells x.cells t, .pointer (some ⟨w.heap.size, 0, none⟩), ?_, brel_cells _ _ _ h1 h2, .ptr _ _⟩
    simp [Instr.box, newVar, newRow]
  unfold abox
  split
  · exact tells_fail
  · rename_i h; exact key h

/-! ### Writing into a block -/
def splice (cs : List AVal) (o : Nat) (vs : List AVal) : List AVal := cs.take o ++ vs ++ cs.drop (o + vs.length)
theorem splice_length {cs vs : List AVal} {o : Nat} (h : o + vs.length ≤ cs.length) : (splice cs o vs).length = cs.length := by
  simp only [splice, List.length_append, List.length_take, List.length_drop]; omega
theorem splice_getD {cs vs : List AVal} {o : Nat} (h : o + vs.length ≤ cs.length) (i : Nat) :
    (splice cs o vs).getD i .undef = if i < o then cs.getD i .undef else if i < o + vs.length then vs.getD (i - o) .undef else cs.getD i .undef := by
  have ho : min o cs.length = o := by omega
  simp only [splice, List.getD_eq_getElem?_getD, List.append_assoc, List.getElem?_append, List.length_take, ho, List.getElem?_take, List.getElem?_drop]
  by_cases h1 : i < o
  · simp [h1]
  · by_cases h2 : i < o + vs.length
    · have : i - o < vs.length := by omega
      simp [h1, h2, this]
    · have : ¬ i - o < vs.length := by omega
      simp only [h1, h2, this, if_false]
      congr 2; omega

theorem write_step {m : Heap} {w w' : World} (hs : Sat m w) {p : Nat} {x y : ABlk} (hp : m p = some x) (h1 : w'.heap.size = w.heap.size) (h2 : w'.os = w.os) (h3 : w'.tape = w.tape) (h4 : w'.output = w.output ∧ w.drawn ≤ w'.drawn)
    (h5 : ∀ b, b ≠ p → w'.heap[b]? = w.heap[b]?) (h6 : ∀ m' w'', Ext m w m' w'' → BRel m' w'' y w'.heap[p]?) :
    Sat (hupd m p y) w' ∧ Ext m w (hupd m p y) w' := by
  have e : Ext m w (hupd m p y) w' := ⟨by omega, h2, h3, h4, fun b hb hm => by
    have hne : b ≠ p := fun hbp => by rw [hbp, hp] at hm; cases hm
    exact ⟨h5 b hne, by simp only [hupd]; rw [if_neg hne]; exact hm⟩⟩
  refine ⟨fun b z hz => ?_, e⟩
  simp only [hupd] at hz
  split at hz
  · rename_i hb
    subst hb
    obtain rfl : y = z := by simpa using hz
    exact h6 _ _ e
  · rename_i hb
    rw [h5 b hb]
    exact (hs b z hz).ext e

theorem store_step {P : Program} {m : Heap} {w : World} (hs : Sat m w) {p : Nat} {cs : List AVal} {N : Nat} (hp : m p = some (.cells cs N)) (o : Nat) (vs : List AVal) (xs : List Value)
    (hl : vs.length = xs.length) (hv : ∀ i, i < vs.length → VRel m w (vs.getD i .undef) (xs.getD i Go.undef)) (hf : vs.all AVal.flat = true) (hfit : o + vs.length ≤ cs.length) :
    ∃ w', (storeCells ⟨p, o, none⟩ xs).run P w = .ok () w' ∧ Sat (hupd m p (.cells (splice cs o vs) N)) w' ∧ Ext m w (hupd m p (.cells (splice cs o vs) N)) w' := by
  obtain ⟨arr, ty, k1, k2, k3, k4⟩ := hs p _ hp
  have h1 : ∀ v ∈ xs, v.oneCell' = true := by
    intro v hvm
    obtain ⟨i, hi, rfl⟩ := List.getElem_of_mem hvm
    have hi' : i < vs.length := by omega
    have hr := hv i hi'
    have e1 : xs.getD i Go.undef = xs[i] := by simp [List.getD_eq_getElem?_getD, hi]
    rw [e1] at hr
    refine hr.oneCell ?_
    have := List.all_eq_true.1 hf (vs.getD i .undef) (by simp [List.getD_eq_getElem?_getD, hi'])
    exact this
  have hst := run_storeCells_at P p o ty xs 0 arr w k1 (by omega) h1
  simp only [Nat.add_zero] at hst
  refine ⟨_, hst, ?_⟩
  have hlt : p < w.heap.size := (Array.getElem?_eq_some_iff.1 k1).1
  refine write_step hs hp ?_ rfl rfl ⟨rfl, Nat.le_refl _⟩ ?_ ?_
  · simp [World.setRow]
  · intro b hb
    simp only [World.setRow, Array.getElem?_modify]
    rw [if_neg (fun h => hb h.symm)]
  · intro m' w'' e
    have hrow := setRow_heap w p arr ((arr.toList.take o ++ xs ++ arr.toList.drop (o + xs.length)).toArray) ty (0, 0) k1
    rw [hrow]
    refine ⟨_, ty, rfl, ?_, ?_, fun i hi => ?_⟩
    · simp; omega
    · rw [splice_length hfit]; exact k3
    · rw [splice_length hfit] at hi
      rw [splice_getD hfit]
      have ho : min o arr.toList.length = o := by simp; omega
      have hx : ((arr.toList.take o ++ xs ++ arr.toList.drop (o + xs.length)).toArray).getD i Go.undef =
          if i < o then arr.getD i Go.undef else if i < o + xs.length then xs.getD (i - o) Go.undef else arr.getD i Go.undef := by
        simp only [Array.getD_eq_getD_getElem?, List.getElem?_toArray, List.append_assoc, List.getElem?_append, List.length_take, ho, List.getElem?_take, List.getElem?_drop]
        by_cases g1 : i < o
        · simp [g1]
        · by_cases g2 : i < o + xs.length
          · have : i - o < xs.length := by omega
            simp [g1, g2, this, List.getD_eq_getElem?_getD]
          · have : ¬ i - o < xs.length := by omega
            simp only [g1, g2, this, if_false]
            simp
            congr 2; omega
      rw [hx, ← hl]
      by_cases g1 : i < o
      · simp only [g1, if_true]; exact (k4 i (by omega)).ext e
      · by_cases g2 : i < o + vs.length
        · simp only [g1, g2, if_true, if_false]; exact (hv (i - o) (by omega)).ext e
        · simp only [g1, g2, if_false]; exact (k4 i hi).ext e

def astore (P : Program) (t : TypeId) : AVal → AVal → D
  | .ptr b o, v => match tk P t with
    | some (_, n) => .write b (fun x => match x with | .cells cs _ => (match v with | .undef => False | _ => True) ∧ v.cells.length = n ∧ v.cells.all AVal.flat = true ∧ o + n ≤ cs.length | _ => False)
        (fun x => match x with | .cells cs N => .cells (splice cs o v.cells) N | y => y) (.tuple [])
    | none => .fail
  | _, _ => .fail
theorem astore_tells {P : Program} {w : World} {m : Heap} {t : TypeId} {v u : AVal} {x y : Value} (hs : Sat m w) (hv : VRel m w v x) (hu : VRel m w u y) :
    Tells P (astore P t v u) (do Instr.storeAt t x y; pure Go.undef) w m := by
  unfold astore
  split
  · rename_i b o
    split
    · rename_i a n ht
      intro K hK
      simp only [D.run] at hK
      split at hK
      · rename_i z hz
        cases z with
        | cells cs N =>
          obtain ⟨⟨hne, hlen, hfl, hfit⟩, hK⟩ := hK
          have hne' : u ≠ .undef := by rintro rfl; exact hne
          obtain ⟨h1, h2⟩ := hu.cells hne'
          cases hv
          have hl : u.cells.length = y.cells.toList.length := by simpa using h1
          have hgd : ∀ i, i < u.cells.length → VRel m w (u.cells.getD i .undef) (y.cells.toList.getD i Go.undef) := by
            intro i hi
            have := h2 i hi
            simpa [Array.getD_eq_getD_getElem?, List.getD_eq_getElem?_getD] using this
          obtain ⟨w', k1, k2, k3⟩ := store_step (P := P) hs hz o u.cells y.cells.toList hl hgd hfl (by omega)
          refine ⟨Go.undef, w', .tuple [], _, ?_, hK, .tuple [] #[] rfl (fun i hi => by simp at hi), k2, k3⟩
          have hsz : y.cells.size = n := by omega
          simp [Instr.storeAt, Instr.sureAddr, storeVar, run_sizeOf' ht, hsz, k1]
        | map es bs cl => exact hK.1.elim
        | obj o => exact hK.1.elim
        | loop => exact hK.1.elim
      · exact hK.elim
    · exact tells_fail
  · exact tells_fail

end Go.Proofs.YtdckcophbmnjjaaGreatDoor.Ab
namespace Go.Proofs.YtdckcophbmnjjaaGreatDoor.Ab
open Go

/-! ### Fields -/
/-- A field's place, and what it holds: aggregate or not, how many cells. -/
def fo (P : Program) (s : TypeId) (f : Nat) : Option (Nat × Bool × Nat) := match P.underlying s with
  | some (.struct fs) => match fs[f]? with
    | some fl => match tk P fl.type with
      | some (a, n) => some (fl.offset, a, n)
      | none => none
    | none => none
  | _ => none

def afieldAddr (P : Program) (s : TypeId) (f : Nat) : AVal → D
  | .ptr b o => match fo P s f with
    | some (off, _, n) => .pure (n ≠ 0) (.ptr b (o + off))
    | none => .fail
  | .rptr cs o => match fo P s f with
    | some (off, _, n) => .pure (n ≠ 0) (.rptr cs (o + off))
    | none => .fail
  | _ => .fail
theorem run_fieldAt {P : Program} {w : World} {s : TypeId} {f off n : Nat} {a : Bool} (h : fo P s f = some (off, a, n)) (hn : n ≠ 0) (b o : Nat) :
    (Instr.fieldAt s (.pointer (some ⟨b, o, none⟩)) f).run P w = .ok (.pointer (some ⟨b, o + off, none⟩)) w := by
  unfold fo at h
  split at h
  · rename_i fs hu
    split at h
    · rename_i fl hf
      split at h
      · rename_i a' n' ht
        simp only [Option.some.injEq, Prod.mk.injEq] at h
        obtain ⟨rfl, rfl, rfl⟩ := h
        simp [Instr.fieldAt, run_underlying hu, hf, Instr.sureAddr, fieldPlace, run_sizeOf' ht, hn, addr_add]
      · simp at h
    · simp at h
  · simp at h
theorem afieldAddr_tells {P : Program} {w : World} {m : Heap} {s : TypeId} {f : Nat} {v : AVal} {x : Value} (hs : Sat m w) (hv : VRel m w v x) : Tells P (afieldAddr P s f v) (Instr.fieldAt s x f) w m := by
  unfold afieldAddr
  split
  · split
    · rename_i hf
      refine tells_pure hs (fun hn => ?_)
      cases hv
      exact ⟨_, run_fieldAt hf hn _ _, .ptr _ _⟩
    · exact tells_fail
  · split
    · rename_i hf
      refine tells_pure hs (fun hn => ?_)
      cases hv with
      | rptr cs o b off' g hm hb hc hv' =>
        refine ⟨_, run_fieldAt hf hn _ _, ?_⟩
        rw [Nat.add_assoc]
        exact .rptr _ _ _ _ g hm hb hc hv'
    · exact tells_fail
  · exact tells_fail

theorem run_part {P : Program} {m : Heap} {w : World} {t : TypeId} {a : Bool} {n : Nat} (ht : tk P t = some (a, n)) (o : Nat) (cs : List AVal) (vs : Array Value) (hl : cs.length = vs.size)
    (hv : ∀ i, i < cs.length → VRel m w (cs.getD i .undef) (vs.getD i Go.undef)) (hok : rok a n cs o) : ∃ x, (part t vs o).run P w = .ok x w ∧ VRel m w (rcell a n cs o) x := by
  unfold part
  cases a with
  | true =>
    simp only [rok, if_true] at hok
    refine ⟨.agg (vs.extract o (o + n)), by simp [run_isAgg ht, run_sizeOf' ht], ?_⟩
    refine .agg _ _ (by simp [hl]; omega) (fun i hi => ?_)
    have hi' : i < n := by simp at hi; omega
    have e1 : ((cs.drop o).take n).getD i .undef = cs.getD (o + i) .undef := by
      simp [List.getD_eq_getElem?_getD, List.getElem?_take, hi', List.getElem?_drop]
    have e2 : (vs.extract o (o + n)).getD i Go.undef = vs.getD (o + i) Go.undef := by
      simp only [Array.getD_eq_getD_getElem?, Array.getElem?_extract]
      rw [if_pos (by omega)]
    rw [e1, e2]; exact hv _ (by omega)
  | false =>
    simp only [rok, Bool.false_eq_true, if_false] at hok
    refine ⟨vs.getD o Go.undef, ?_, by simpa [rcell] using hv o hok⟩
    have : o < vs.size := by omega
    simp [run_isAgg ht, this, Array.getD_eq_getD_getElem?]

def afield (P : Program) (s : TypeId) (f : Nat) : AVal → D
  | .agg cs => match fo P s f with
    | some (off, a, n) => .pure (rok a n cs off) (rcell a n cs off)
    | none => .fail
  | _ => .fail
theorem afield_tells {P : Program} {w : World} {m : Heap} {s : TypeId} {f : Nat} {v : AVal} {x : Value} (hs : Sat m w) (hv : VRel m w v x) : Tells P (afield P s f v) (Instr.field s x f) w m := by
  unfold afield
  split
  · split
    · rename_i off a n hf
      refine tells_pure hs (fun hok => ?_)
      cases hv with
      | agg cs vs hl hv' =>
        unfold fo at hf
        split at hf
        · rename_i fs hu
          split at hf
          · rename_i fl hfl
            split at hf
            · rename_i a' n' ht
              simp only [Option.some.injEq, Prod.mk.injEq] at hf
              obtain ⟨rfl, rfl, rfl⟩ := hf
              obtain ⟨x, h1, h2⟩ := run_part (P := P) ht fl.offset _ vs hl hv' hok
              exact ⟨x, by simp [Instr.field, run_underlying hu, hfl, asAgg, h1], h2⟩
            · simp at hf
          · simp at hf
        · simp at hf
    · exact tells_fail
  · exact tells_fail

/-! ### Elements -/
def aindex (P : Program) (t : TypeId) : AVal → AVal → D
  | .agg cs, .int _ i => match P.underlying t with
    | some (.array len e) => match tk P e with
      | some (a, n) => .pure (0 ≤ i ∧ i < len ∧ rok a n cs (i.toNat * n)) (rcell a n cs (i.toNat * n))
      | none => .fail
    | _ => .fail
  | _, _ => .fail
theorem aindex_tells {P : Program} {w : World} {m : Heap} {t : TypeId} {v u : AVal} {x y : Value} (hs : Sat m w) (hv : VRel m w v x) (hu : VRel m w u y) : Tells P (aindex P t v u) (Instr.index t x y) w m := by
  unfold aindex
  split
  · rename_i cs k i
    split
    · rename_i len e hd
      split
      · rename_i a n ht
        refine tells_pure hs (fun ⟨h0, h1, hok⟩ => ?_)
        cases hu
        cases hv with
        | agg cs vs hl hv' =>
          obtain ⟨x, k1, k2⟩ := run_part (P := P) ht (i.toNat * n) cs vs hl hv' hok
          exact ⟨x, by simp [Instr.index, asIntOf, run_underlying hd, h0, h1, run_sizeOf' ht, k1], k2⟩
      · exact tells_fail
    · exact tells_fail
  · exact tells_fail

def elemT (P : Program) (t : TypeId) : Option (Option Nat × TypeId) := match P.underlying t with
  | some (.array n e) => some (some n, e)
  | some (.slice e) => some (none, e)
  | _ => none
def aindexAddr (P : Program) (t : TypeId) : AVal → AVal → D
  | .slice b o len _, .int _ i => match P.underlying t with
    | some (.slice e) => match tk P e with
      | some (_, n) => .pure (0 ≤ i ∧ i < len) (.ptr b (o + i.toNat * n))
      | none => .fail
    | _ => .fail
  | .list sz xs, .int _ i => match P.underlying t with
    | some (.slice e) => match tk P e with
      | some (_, n) => .pure (n = sz ∧ 0 ≤ i ∧ i < xs.length) (.rptr (xs.getD i.toNat .undef).cells 0)
      | none => .fail
    | _ => .fail
  | .ptr b o, .int _ i => match P.underlying t with
    | some (.array len e) => match tk P e with
      | some (_, n) => .pure (0 ≤ i ∧ i < len) (.ptr b (o + i.toNat * n))
      | none => .fail
    | _ => .fail
  | .rptr cs o, .int _ i => match P.underlying t with
    | some (.array len e) => match tk P e with
      | some (_, n) => .pure (0 ≤ i ∧ i < len) (.rptr cs (o + i.toNat * n))
      | none => .fail
    | _ => .fail
  | _, _ => .fail
theorem aindexAddr_tells {P : Program} {w : World} {m : Heap} {t : TypeId} {v u : AVal} {x y : Value} (hs : Sat m w) (hv : VRel m w v x) (hu : VRel m w u y) : Tells P (aindexAddr P t v u) (Instr.indexAt t x y) w m := by
  unfold aindexAddr
  split
  · rename_i b o len cap k i
    split
    · rename_i e hd
      split
      · rename_i a n ht
        refine tells_pure hs (fun ⟨h0, h1⟩ => ?_)
        cases hu; cases hv
        exact ⟨.pointer (some ⟨b, o + i.toNat * n, none⟩), by simp [Instr.indexAt, asIntOf, run_underlying hd, h0, h1, run_sizeOf' ht, addr_add], .ptr _ _⟩
      · exact tells_fail
    · exact tells_fail
  · rename_i sz xs k i
    split
    · rename_i e hd
      split
      · rename_i a n ht
        refine tells_pure hs (fun ⟨hn, h0, h1⟩ => ?_)
        subst hn
        cases hu
        cases hv with
        | list0 => simp at h1; omega
        | list _ _ b off cap f hm hb hcap hsz hc hv' =>
          have hi : i.toNat < xs.length := by omega
          refine ⟨.pointer (some ⟨b, off + i.toNat * n, none⟩), by simp [Instr.indexAt, asIntOf, run_underlying hd, h0, h1, run_sizeOf' ht, addr_add], ?_⟩
          have hl := hsz i.toNat hi
          have := VRel.rptr (m := m) (w := w) (xs.getD i.toNat .undef).cells 0 b (off + i.toNat * n) (fun j => f i.toNat j) hm hb
            (fun j hj => by rw [hl] at hj; rw [Nat.add_assoc]; exact hc i.toNat j hi hj) (fun j hj => by rw [hl] at hj; exact hv' i.toNat j hi hj)
          simpa using this
      · exact tells_fail
    · exact tells_fail
  · rename_i b o k i
    split
    · rename_i len e hd
      split
      · rename_i a n ht
        refine tells_pure hs (fun ⟨h0, h1⟩ => ?_)
        cases hu; cases hv
        exact ⟨.pointer (some ⟨b, o + i.toNat * n, none⟩), by simp [Instr.indexAt, asIntOf, run_underlying hd, h0, h1, run_sizeOf' ht, addr_add, Instr.sureAddr], .ptr _ _⟩
      · exact tells_fail
    · exact tells_fail
  · rename_i cs o k i
    split
    · rename_i len e hd
      split
      · rename_i a n ht
        refine tells_pure hs (fun ⟨h0, h1⟩ => ?_)
        cases hu
        cases hv with
        | rptr _ _ b off g hm hb hc hv' =>
          refine ⟨.pointer (some ⟨b, off + o + i.toNat * n, none⟩), by simp [Instr.indexAt, asIntOf, run_underlying hd, h0, h1, run_sizeOf' ht, addr_add, Instr.sureAddr], ?_⟩
          rw [Nat.add_assoc]
          exact .rptr _ _ _ _ g hm hb hc hv'
      · exact tells_fail
    · exact tells_fail
  · exact tells_fail

/-! ### A part of a slice -/
/-- A bound: not there, or a number. -/
def abound (dflt : Nat) : Option AVal → Option Int
  | none => some dflt
  | some (.int _ n) => some n
  | some _ => none
def aslice (P : Program) (t : TypeId) (x : AVal) (lo hi mx : Option AVal) : D :=
  match x with
  | .slice b o len cap => match P.underlying t with
    | some (.slice e) => match tk P e, abound 0 lo, abound len hi, abound cap mx with
      | some (_, n), some l, some h, some m => .pure (0 ≤ l ∧ l ≤ h ∧ h ≤ m ∧ m ≤ cap ∧ (mx.isSome = true → hi.isSome = true)) (.slice b (if m = l then o else o + l.toNat * n) (h.toNat - l.toNat) (m.toNat - l.toNat))
      | _, _, _, _ => .fail
    | _ => .fail
  | .list sz xs => match P.underlying t with
    | some (.slice e) => match tk P e, abound 0 lo, abound xs.length hi, abound xs.length mx with
      | some (_, n), some l, some h, some m => .pure (n = sz ∧ 0 ≤ l ∧ l ≤ h ∧ h ≤ m ∧ m ≤ xs.length ∧ (mx.isSome = true → hi.isSome = true)) (.list sz ((xs.take h.toNat).drop l.toNat))
      | _, _, _, _ => .fail
    | _ => .fail
  | .nils => match P.underlying t with
    | some (.slice e) => match tk P e, abound 0 lo, abound 0 hi, abound 0 mx with
      | some _, some l, some h, some m => .pure (l = 0 ∧ h = 0 ∧ m = 0 ∧ (mx.isSome = true → hi.isSome = true)) .nils
      | _, _, _, _ => .fail
    | _ => .fail
  | .ptr b o => match P.underlying t with
    | some (.array len e) => match tk P e, abound 0 lo, abound len hi, abound len mx with
      | some (_, n), some l, some h, some m => .pure (0 ≤ l ∧ l ≤ h ∧ h ≤ m ∧ m ≤ len ∧ (mx.isSome = true → hi.isSome = true)) (.slice b (if m = l then o else o + l.toNat * n) (h.toNat - l.toNat) (m.toNat - l.toNat))
      | _, _, _, _ => .fail
    | _ => .fail
  | _ => .fail

/-- The bounds as the model finds them. -/
def BRelO (m : Heap) (w : World) : Option AVal → Option Value → Prop
  | none, none => True
  | some v, some x => VRel m w v x
  | _, _ => False
theorem run_sliceBounds {P : Program} {m : Heap} {w : World} (isS : Bool) (len cap : Nat) (lo hi mx : Option AVal) (lo' hi' mx' : Option Value) (h1 : BRelO m w lo lo') (h2 : BRelO m w hi hi') (h3 : BRelO m w mx mx')
    (l h k : Int) (el : abound 0 lo = some l) (eh : abound len hi = some h) (em : abound cap mx = some k) (c0 : 0 ≤ l) (c1 : l ≤ h) (c2 : h ≤ k) (c3 : k ≤ cap) (c4 : mx.isSome = true → hi.isSome = true) :
    (Instr.sliceBounds isS len cap lo' hi' mx').run P w = .ok (l.toNat, h.toNat, k.toNat) w := by
  have hb : ∀ (v : AVal) (x : Value) (d : Nat) (n : Int) (y : Nat) (c : BoundsCode), VRel m w v x → abound d (some v) = some n → 0 ≤ n → n ≤ y → (Instr.sliceBound x y c).run P w = .ok n.toNat w := by
    intro v x d n y c hv ha g0 g1
    cases hv <;> simp [abound] at ha
    subst ha
    simp [Instr.sliceBound, asIntOf, g0, g1]
  unfold Instr.sliceBounds
  cases mx with
  | none =>
    cases mx' with
    | some _ => exact h3.elim
    | none =>
      simp only [abound, Option.some.injEq] at em
      subst em
      cases hi with
      | none =>
        cases hi' with
        | some _ => exact h2.elim
        | none =>
          simp only [abound, Option.some.injEq] at eh
          subst eh
          cases lo with
          | none =>
            cases lo' with
            | some _ => exact h1.elim
            | none => simp only [abound, Option.some.injEq] at el; subst el; simp
          | some v =>
            cases lo' with
            | none => exact h1.elim
            | some x => simp [hb v x 0 l len _ h1 el c0 (by omega)]
      | some u =>
        cases hi' with
        | none => exact h2.elim
        | some y =>
          have e1 := hb u y len h cap (if isS = true then BoundsCode.sliceAcap else BoundsCode.sliceAlen) h2 eh (by omega) (by omega)
          cases lo with
          | none =>
            cases lo' with
            | some _ => exact h1.elim
            | none => simp only [abound, Option.some.injEq] at el; subst el; simp [e1]
          | some v =>
            cases lo' with
            | none => exact h1.elim
            | some x =>
              have e2 := hb v x 0 l h.toNat .sliceB h1 el c0 (by omega)
              simp [e1, e2]
  | some z =>
    cases mx' with
    | none => exact h3.elim
    | some z' =>
      have e0 := hb z z' cap k cap (if isS = true then BoundsCode.slice3Acap else BoundsCode.slice3Alen) h3 em (by omega) (by omega)
      cases hi with
      | none => simp at c4
      | some u =>
        cases hi' with
        | none => exact h2.elim
        | some y =>
          have e1 := hb u y len h k.toNat .slice3B h2 eh (by omega) (by omega)
          cases lo with
          | none =>
            cases lo' with
            | some _ => exact h1.elim
            | none => simp only [abound, Option.some.injEq] at el; subst el; simp [e0, e1]
          | some v =>
            cases lo' with
            | none => exact h1.elim
            | some x =>
              have e2 := hb v x 0 l h.toNat .slice3C h1 el c0 (by omega)
              simp [e0, e1, e2]

theorem aslice_tells {P : Program} {w : World} {m : Heap} {t : TypeId} {v : AVal} {x : Value} {lo hi mx : Option AVal} {lo' hi' mx' : Option Value} (hs : Sat m w) (hv : VRel m w v x)
    (h1 : BRelO m w lo lo') (h2 : BRelO m w hi hi') (h3 : BRelO m w mx mx') : Tells P (aslice P t v lo hi mx) (Instr.sliceAt t x lo' hi' mx') w m := by
  unfold aslice
  split
  · rename_i b o len cap
    split
    · rename_i e hd
      split
      · rename_i a n l h k ht el eh em
        refine tells_pure hs (fun ⟨c0, c1, c2, c3, c4⟩ => ?_)
        cases hv
        have hr := run_sliceBounds (P := P) (m := m) true len cap lo hi mx lo' hi' mx' h1 h2 h3 l h k el eh em c0 c1 c2 c3 c4
        refine ⟨_, by simp only [Instr.sliceAt, Instr.slice, Sem.run_bind, run_underlying hd, Result.andThen_ok, hr, run_sizeOf' ht, Sem.run_pure]; rfl, ?_⟩
        by_cases hkl : k = l
        · subst hkl; simp only [if_true]; exact .slice _ _ _ _
        · have : ¬ k.toNat = l.toNat := by omega
          simp only [hkl, this, if_false, Option.map_some, addr_add]; exact .slice _ _ _ _
      · exact tells_fail
    · exact tells_fail
  · rename_i sz xs
    split
    · rename_i e hd
      split
      · rename_i a n l h k ht el eh em
        refine tells_pure hs (fun ⟨hn, c0, c1, c2, c3, c4⟩ => ?_)
        subst hn
        have key : ∀ (A : Option Addr) (cap : Nat) (k' : Int), xs.length ≤ cap → abound cap mx = some k' → k ≤ k' → k' ≤ cap →
            (Instr.sliceAt t (.slice A xs.length cap) lo' hi' mx').run P w = .ok (.slice (if k'.toNat = l.toNat then A else A.map (·.add (l.toNat * n))) (h.toNat - l.toNat) (k'.toNat - l.toNat)) w := by
          intro A cap k' hcap em' hk hk'
          have hr := run_sliceBounds (P := P) (m := m) true xs.length cap lo hi mx lo' hi' mx' h1 h2 h3 l h k' el eh em' c0 c1 (by omega) hk' c4
          simp only [Instr.sliceAt, Instr.slice, Sem.run_bind, run_underlying hd, Result.andThen_ok, hr, run_sizeOf' ht, Sem.run_pure]
        have hk' : ∀ cap, xs.length ≤ cap → ∃ k', abound cap mx = some k' ∧ k ≤ k' ∧ k' ≤ cap := by
          intro cap hcap
          cases mx with
          | none => simp only [abound, Option.some.injEq] at em; exact ⟨cap, rfl, by omega, by omega⟩
          | some z => cases z <;> simp [abound] at em ⊢; exact ⟨by omega, by omega⟩
        cases hv with
        | list0 sz A cap =>
          obtain ⟨k', g1, g2, g3⟩ := hk' cap (by simp)
          refine ⟨_, key A cap k' (by simp) g1 g2 g3, ?_⟩
          have e0 : h.toNat - l.toNat = 0 := by simp at c3; omega
          simp only [List.take_nil, List.drop_nil, e0]
          exact .list0 _ _ _
        | list sz _ b off cap f hm hb hcap hsz hc hv' =>
          obtain ⟨k', g1, g2, g3⟩ := hk' cap hcap
          refine ⟨_, key (some ⟨b, off, none⟩) cap k' hcap g1 g2 g3, ?_⟩
          have hlen : ((xs.take h.toNat).drop l.toNat).length = h.toNat - l.toNat := by simp; omega
          by_cases hz : h.toNat - l.toNat = 0
          · have : (xs.take h.toNat).drop l.toNat = [] := List.eq_nil_of_length_eq_zero (by omega)
            rw [this, hz]; exact .list0 _ _ _
          · have hne : ¬ k'.toNat = l.toNat := by omega
            simp only [hne, if_false, Option.map_some, addr_add]
            rw [← hlen]
            have hget : ∀ i, i < ((xs.take h.toNat).drop l.toNat).length → ((xs.take h.toNat).drop l.toNat).getD i .undef = xs.getD (l.toNat + i) .undef := by
              intro i hi
              rw [hlen] at hi
              have : l.toNat + i < h.toNat := by omega
              simp [List.getD_eq_getElem?_getD, List.getElem?_drop, List.getElem?_take, this]
            refine .list n _ b (off + l.toNat * n) _ (fun i j => f (l.toNat + i) j) hm hb (by rw [hlen]; omega) (fun i hi => ?_) (fun i j hi hj => ?_) (fun i j hi hj => ?_)
            · rw [hget i hi]; exact hsz _ (by rw [hlen] at hi; omega)
            · have := hc (l.toNat + i) j (by rw [hlen] at hi; omega) hj
              rw [← this]; congr 2
              rw [Nat.add_mul]; omega
            · rw [hget i hi]; exact hv' _ j (by rw [hlen] at hi; omega) hj
      · exact tells_fail
    · exact tells_fail
  · split
    · rename_i e hd
      split
      · rename_i an l h k ht el eh em
        refine tells_pure hs (fun ⟨c0, c1, c2, c4⟩ => ?_)
        cases hv
        subst c0 c1 c2
        have hr := run_sliceBounds (P := P) (m := m) true 0 0 lo hi mx lo' hi' mx' h1 h2 h3 0 0 0 el eh em (by omega) (by omega) (by omega) (by omega) c4
        obtain ⟨a, n⟩ := an
        exact ⟨.slice none 0 0, by simp only [Instr.sliceAt, Instr.slice, Sem.run_bind, run_underlying hd, Result.andThen_ok, hr, run_sizeOf' ht, Sem.run_pure]; simp, .nils⟩
      · exact tells_fail
    · exact tells_fail
  · rename_i b o
    split
    · rename_i len e hd
      split
      · rename_i a n l h k ht el eh em
        refine tells_pure hs (fun ⟨c0, c1, c2, c3, c4⟩ => ?_)
        cases hv
        have hr := run_sliceBounds (P := P) (m := m) false len len lo hi mx lo' hi' mx' h1 h2 h3 l h k el eh em c0 c1 c2 c3 c4
        refine ⟨_, by simp only [Instr.sliceAt, Instr.sureAddr, Sem.run_bind, run_underlying hd, Result.andThen_ok, hr, run_sizeOf' ht, Sem.run_pure]; rfl, ?_⟩
        by_cases hkl : k = l
        · subst hkl; simp only [if_true]; exact .slice _ _ _ _
        · have : ¬ k.toNat = l.toNat := by omega
          simp only [hkl, this, if_false, addr_add]; exact .slice _ _ _ _
      · exact tells_fail
    · exact tells_fail
  · exact tells_fail

end Go.Proofs.YtdckcophbmnjjaaGreatDoor.Ab
