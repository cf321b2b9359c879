/- An abstract view of Go's memory: values with lists in place of what is only read, blocks that a call owns, and how both stand to the model's world. -/
import Derived.CallsIn
import Derived.RangeFuncLeaves
set_option linter.all false
namespace Go.Proofs.Ytcdhihoghkkahaa.Ab
open Go

/-- An abstract value. 'undef' says nothing; 'list' and 'rptr' are what is only read. -/
inductive AVal where
  | undef
  | bool (b : Bool)
  | int (k : IntKind) (n : Int)
  | str (s : ByteArray)
  | nilp
  | ptr (b o : Nat)
  | rptr (cs : List AVal) (o : Nat)
  | nils
  | slice (b o len cap : Nat)
  | list (sz : Nat) (xs : List AVal)
  | nilmap
  | map (b : Nat)
  | func (fn : Fn) (first captured : List AVal)
  | nilf
  | iface (t : TypeId) (v : AVal)
  | nili
  | agg (cs : List AVal)
  | tuple (vs : List AVal)

def AVal.cells : AVal → List AVal
  | .agg cs => cs
  | v => [v]

/-- What a block holds: cells, of which the first ones are told; a map, by its entries; whatever object; the record of a loop over a function. -/
inductive ABlk where
  | cells (cs : List AVal) (N : Nat)
  | map (es : List (Int × AVal))
  | obj (o : Obj)
  | loop (N : Nat) (ts : Nat → AVal) (ps : Array Tmp) (assign body : Code) (st : LoopState) (pe : Option Code)

abbrev Heap := Nat → Option ABlk
abbrev TS := Nat → AVal

def hupd (m : Heap) (b : Nat) (x : ABlk) : Heap := fun i => if i = b then some x else m i
def hdel (m : Heap) (b : Nat) : Heap := fun i => if i = b then none else m i
def upd (ts : TS) (d : Nat) (v : AVal) : TS := fun i => if i = d then v else ts i
def put (ts : TS) (d : Option Nat) (v : AVal) : TS := match d with
  | some d => upd ts d v
  | none => ts

inductive VRel (m : Heap) (w : World) : AVal → Value → Prop where
  | undef (v : Value) : VRel m w .undef v
  | bool (b : Bool) : VRel m w (.bool b) (.bool b)
  | int (k : IntKind) (n : Int) : VRel m w (.int k n) (.int k n)
  | str (s : ByteArray) : VRel m w (.str s) (.string s)
  | nilp : VRel m w .nilp (.pointer none)
  | ptr (b o : Nat) : VRel m w (.ptr b o) (.pointer (some ⟨b, o, none⟩))
  | rptr (cs : List AVal) (o b off : Nat) (f : Nat → Value) (hm : m b = none) (hb : b < w.heap.size)
      (hc : ∀ i, i < cs.length → w.cell? ⟨b, off + i, none⟩ = some (f i)) (hv : ∀ i, i < cs.length → VRel m w (cs.getD i .undef) (f i)) :
      VRel m w (.rptr cs o) (.pointer (some ⟨b, off + o, none⟩))
  | nils : VRel m w .nils (.slice none 0 0)
  | slice (b o len cap : Nat) : VRel m w (.slice b o len cap) (.slice (some ⟨b, o, none⟩) len cap)
  | list0 (sz : Nat) (a : Option Addr) (cap : Nat) : VRel m w (.list sz []) (.slice a 0 cap)
  | list (sz : Nat) (xs : List AVal) (b off cap : Nat) (f : Nat → Nat → Value) (hm : m b = none) (hb : b < w.heap.size) (hcap : xs.length ≤ cap)
      (hsz : ∀ i, i < xs.length → (xs.getD i .undef).cells.length = sz)
      (hc : ∀ i j, i < xs.length → j < sz → w.cell? ⟨b, off + (i * sz + j), none⟩ = some (f i j))
      (hv : ∀ i j, i < xs.length → j < sz → VRel m w ((xs.getD i .undef).cells.getD j .undef) (f i j)) :
      VRel m w (.list sz xs) (.slice (some ⟨b, off, none⟩) xs.length cap)
  | nilmap : VRel m w .nilmap (.map none)
  | map (b : Nat) : VRel m w (.map b) (.map (some b))
  | func (fn : Fn) (fs cs : List AVal) (fs' cs' : Array Value) (h1 : fs.length = fs'.size) (h2 : cs.length = cs'.size)
      (hf : ∀ i, i < fs.length → VRel m w (fs.getD i .undef) (fs'.getD i Go.undef)) (hc : ∀ i, i < cs.length → VRel m w (cs.getD i .undef) (cs'.getD i Go.undef)) :
      VRel m w (.func fn fs cs) (.func fn fs' cs')
  | nilf : VRel m w .nilf .nilFunc
  | iface (t : TypeId) (v : AVal) (x : Value) (h : VRel m w v x) : VRel m w (.iface t v) (.iface t x)
  | nili : VRel m w .nili .nilIface
  | agg (cs : List AVal) (vs : Array Value) (h : cs.length = vs.size) (hv : ∀ i, i < cs.length → VRel m w (cs.getD i .undef) (vs.getD i Go.undef)) : VRel m w (.agg cs) (.agg vs)
  | tuple (cs : List AVal) (vs : Array Value) (h : cs.length = vs.size) (hv : ∀ i, i < cs.length → VRel m w (cs.getD i .undef) (vs.getD i Go.undef)) : VRel m w (.tuple cs) (.tuple vs)

/-- From one state to a later one: what is owned may have turned, what is not has not. -/
structure Ext (m : Heap) (w : World) (m' : Heap) (w' : World) : Prop where
  size : w.heap.size ≤ w'.heap.size
  os : w'.os = w.os
  tape : w'.tape = w.tape
  output : w'.output = w.output ∧ w.drawn ≤ w'.drawn
  keep : ∀ b, b < w.heap.size → m b = none → w'.heap[b]? = w.heap[b]? ∧ m' b = none

theorem Ext.refl (m : Heap) (w : World) : Ext m w m w := ⟨Nat.le_refl _, rfl, rfl, ⟨rfl, Nat.le_refl _⟩, fun _ _ h => ⟨rfl, h⟩⟩
theorem Ext.trans {m m1 m2 : Heap} {w w1 w2 : World} (h : Ext m w m1 w1) (k : Ext m1 w1 m2 w2) : Ext m w m2 w2 :=
  ⟨Nat.le_trans h.size k.size, k.os.trans h.os, k.tape.trans h.tape, ⟨k.output.1.trans h.output.1, Nat.le_trans h.output.2 k.output.2⟩, fun b hb hm => by
    obtain ⟨h1, h2⟩ := h.keep b hb hm
    obtain ⟨k1, k2⟩ := k.keep b (Nat.lt_of_lt_of_le hb h.size) h2
    exact ⟨k1.trans h1, k2⟩⟩

theorem cell_of_heap {w w' : World} {a : Addr} (h : w'.heap[a.block]? = w.heap[a.block]?) : w'.cell? a = w.cell? a := by
  unfold World.cell?; rw [h]

theorem VRel.ext {m m' : Heap} {w w' : World} {v : AVal} {x : Value} (h : VRel m w v x) (e : Ext m w m' w') : VRel m' w' v x := by
  induction h with
  | undef v => exact .undef v
  | bool b => exact .bool b
  | int k n => exact .int k n
  | str s => exact .str s
  | nilp => exact .nilp
  | ptr b o => exact .ptr b o
  | rptr cs o b off f hm hb hc _ ih =>
    obtain ⟨k1, k2⟩ := e.keep b hb hm
    exact .rptr cs o b off f k2 (Nat.lt_of_lt_of_le hb e.size) (fun i hi => (cell_of_heap (a := ⟨b, off + i, none⟩) k1).trans (hc i hi)) ih
  | nils => exact .nils
  | slice b o len cap => exact .slice b o len cap
  | list0 sz a cap => exact .list0 sz a cap
  | list sz xs b off cap f hm hb hcap hsz hc _ ih =>
    obtain ⟨k1, k2⟩ := e.keep b hb hm
    exact .list sz xs b off cap f k2 (Nat.lt_of_lt_of_le hb e.size) hcap hsz (fun i j hi hj => (cell_of_heap (a := ⟨b, off + (i * sz + j), none⟩) k1).trans (hc i j hi hj)) ih
  | nilmap => exact .nilmap
  | map b => exact .map b
  | func fn fs cs fs' cs' h1 h2 _ _ ih1 ih2 => exact .func fn fs cs fs' cs' h1 h2 ih1 ih2
  | nilf => exact .nilf
  | iface t v x _ ih => exact .iface t v x ih
  | nili => exact .nili
  | agg cs vs h _ ih => exact .agg cs vs h ih
  | tuple cs vs h _ ih => exact .tuple cs vs h ih

/-- What is owned in m is as m says, in w. -/
def BRel (m : Heap) (w : World) : ABlk → Option Obj → Prop
  | .cells cs N, o => ∃ arr ty, o = some (.cells arr ty (0, 0)) ∧ arr.size = N ∧ cs.length ≤ N ∧ ∀ i, i < cs.length → VRel m w (cs.getD i .undef) (arr.getD i Go.undef)
  | .map es, o => ∃ (ents : Array MapEntry) (clock : Nat), o = some (.map ents clock) ∧ (∀ e, e ∈ ents.toList → e.born < clock) ∧ (ents.toList.map (·.born)).Nodup ∧
      ents.size = es.length ∧ (es.map (·.1)).Nodup ∧ ∃ k : IntKind, ∀ i, i < es.length → ((ents.getD i default).key = .int k (es.getD i (0, .undef)).1 ∧ VRel m w (es.getD i (0, .undef)).2 (ents.getD i default).val)
  | .obj o', o => o = some o'
  | .loop N ts ps a b st pe, o => ∃ fn tmps D, o = some (.loop { state := st, pending := pe, fn, tmps, params := ps, assign := a, body := b, defers := D }) ∧ tmps.size = N ∧ ∀ t, VRel m w (ts t) (tmps.getD t Go.undef)

def Sat (m : Heap) (w : World) : Prop := ∀ b x, m b = some x → BRel m w x w.heap[b]?

theorem BRel.some {m : Heap} {w : World} {x : ABlk} {o : Option Obj} (h : BRel m w x o) : ∃ y, o = some y := by
  cases x with
  | cells cs N => obtain ⟨arr, ty, h, _⟩ := h; exact ⟨_, h⟩
  | map es => obtain ⟨a, c, h, _⟩ := h; exact ⟨_, h⟩
  | obj o' => exact ⟨_, h⟩
  | loop N ts ps a b st pe => obtain ⟨_, _, _, h, _⟩ := h; exact ⟨_, h⟩
theorem Sat.lt {m : Heap} {w : World} (h : Sat m w) {b : Nat} {x : ABlk} (hb : m b = some x) : b < w.heap.size := by
  obtain ⟨y, hy⟩ := (h b x hb).some
  exact (Array.getElem?_eq_some_iff.1 hy).1
theorem Sat.fresh {m : Heap} {w : World} (h : Sat m w) : m w.heap.size = none := by
  cases hm : m w.heap.size with
  | none => rfl
  | some x => exact absurd (h.lt hm) (Nat.lt_irrefl _)
theorem BRel.ext {m m' : Heap} {w w' : World} {x : ABlk} {o : Option Obj} (h : BRel m w x o) (e : Ext m w m' w') : BRel m' w' x o := by
  cases x with
  | cells cs N => obtain ⟨arr, ty, h1, h2, h3, h4⟩ := h; exact ⟨arr, ty, h1, h2, h3, fun i hi => (h4 i hi).ext e⟩
  | map es => obtain ⟨a, c, h1, h2, h3, h4, h5, k, h6⟩ := h; exact ⟨a, c, h1, h2, h3, h4, h5, k, fun i hi => ⟨(h6 i hi).1, (h6 i hi).2.ext e⟩⟩
  | obj o' => exact h
  | loop N ts ps a b st pe => obtain ⟨fn, tmps, D, h1, h2, h3⟩ := h; exact ⟨fn, tmps, D, h1, h2, fun t => (h3 t).ext e⟩

/-- The deferred calls' blocks of an activation that ranged over functions: each was laid behind B, and is empty. -/
def DefOK (B : Nat) (m : Heap) (w : World) : List Deferred → Prop
  | [] => True
  | d :: ds => (∃ D, d = { target := .collected D, args := #[] } ∧ B ≤ D ∧ m D = none ∧ w.heap[D]? = some (.deferred (some [])) ∧ ∀ d', d' ∈ ds → d' ≠ { target := .collected D, args := #[] }) ∧ DefOK B m w ds
theorem DefOK.ext {B : Nat} {m m' : Heap} {w w' : World} (e : Ext m w m' w') : ∀ {ds : List Deferred}, DefOK B m w ds → DefOK B m' w' ds
  | [], _ => trivial
  | d :: ds, h => by
    obtain ⟨⟨D, h1, h0, h2, h3, h5⟩, h4⟩ := h
    obtain ⟨k1, k2⟩ := e.keep D (Array.getElem?_eq_some_iff.1 h3).1 h2
    exact ⟨⟨D, h1, h0, k2, k1.trans h3, h5⟩, h4.ext e⟩

structure TRel (N : Nat) (m : Heap) (w : World) (ts : TS) (a : Act) : Prop where
  size : a.tmps.size = N
  vals : ∀ t, VRel m w (ts t) (a.tmps.getD t Go.undef)
theorem TRel.ext {N : Nat} {m m' : Heap} {w w' : World} {ts : TS} {a : Act} (h : TRel N m w ts a) (e : Ext m w m' w') : TRel N m' w' ts a :=
  ⟨h.size, fun t => (h.vals t).ext e⟩
theorem TRel.put {N : Nat} {m : Heap} {w : World} {ts : TS} {a : Act} (h : TRel N m w ts a) {d : Option Nat} (hd : ∀ i, d = some i → i < N) {v : AVal} {x : Value} (hv : VRel m w v x) :
    TRel N m w (put ts d v) (a.put d x) := by
  cases d with
  | none => exact h
  | some d =>
    have hlt := hd d rfl
    refine ⟨by simp [Act.put, h.size], fun t => ?_⟩
    have hs := h.size
    by_cases e : t = d
    · subst e
      have : (a.put (some t) x).tmps.getD t Go.undef = x := by
        simp only [Act.put, Array.getD_eq_getD_getElem?]
        rw [Array.getElem?_setIfInBounds_self_of_lt (by omega)]; rfl
      rw [this]; simpa [Ab.put, upd] using hv
    · have : (a.put (some d) x).tmps.getD t Go.undef = a.tmps.getD t Go.undef := by
        simp only [Act.put, Array.getD_eq_getD_getElem?]
        rw [Array.getElem?_setIfInBounds_ne (fun h => e h.symm)]
      rw [this]; simpa [Ab.put, upd, e] using h.vals t

/-- An operand's abstract value. A constant's cells are plain. -/
def ofCell : Value → AVal
  | .bool b => .bool b
  | .int k n => .int k n
  | .string s => .str s
  | .pointer none => .nilp
  | .slice none 0 0 => .nils
  | .map none => .nilmap
  | .nilFunc => .nilf
  | .nilIface => .nili
  | _ => .undef
def ofValue : Value → AVal
  | .agg cs => .agg (cs.toList.map ofCell)
  | .tuple vs => if vs.size = 0 then .tuple [] else .undef
  | .func fn fs cs => if fs.size = 0 ∧ cs.size = 0 then .func fn [] [] else .undef
  | v => ofCell v
theorem ofCell_rel (m : Heap) (w : World) (v : Value) : VRel m w (ofCell v) v := by
  unfold ofCell
  split <;> constructor
theorem ofValue_rel (m : Heap) (w : World) (v : Value) : VRel m w (ofValue v) v := by
  unfold ofValue
  split
  · rename_i cs
    refine .agg _ _ (by simp) (fun i hi => ?_)
    have hi' : i < cs.size := by simpa using hi
    have e1 : (List.map ofCell cs.toList).getD i .undef = ofCell (cs.getD i Go.undef) := by
      simp [List.getD_eq_getElem?_getD, Array.getD_eq_getD_getElem?, hi']
    rw [e1]; exact ofCell_rel m w _
  · rename_i vs
    split
    · rename_i h; exact .tuple [] vs (by simpa using h.symm) (fun i hi => by simp at hi)
    · exact .undef _
  · rename_i fn fs cs
    split
    · rename_i h; exact .func fn [] [] fs cs (by simpa using h.1.symm) (by simpa using h.2.symm) (fun i hi => by simp at hi) (fun i hi => by simp at hi)
    · exact .undef _
  · exact ofCell_rel m w _

def ev (G : Nat → AVal) (ts : TS) : Operand → AVal
  | .tmp t => ts t
  | .const v => ofValue v
  | .global g => G g
  | .func f => .func (.func f) [] []
/-- What is known of package-level variables' addresses. -/
def GOk (G : Nat → AVal) (m : Heap) (w : World) : Prop := ∀ g, VRel m w (G g) (.pointer (some ⟨g, 0, none⟩))
theorem GOk.ext {G : Nat → AVal} {m m' : Heap} {w w' : World} (h : GOk G m w) (e : Ext m w m' w') : GOk G m' w' := fun g => (h g).ext e
theorem ev_rel {G : Nat → AVal} {N : Nat} {m : Heap} {w : World} {ts : TS} {a : Act} (hg : GOk G m w) (h : TRel N m w ts a) (x : Operand) : VRel m w (ev G ts x) (a.eval x) := by
  cases x with
  | tmp t => exact h.vals t
  | const v => exact ofValue_rel m w v
  | global g => exact hg g
  | func f => exact .func (.func f) [] [] #[] #[] rfl rfl (fun i hi => by simp at hi) (fun i hi => by simp at hi)

end Go.Proofs.Ytcdhihoghkkahaa.Ab
