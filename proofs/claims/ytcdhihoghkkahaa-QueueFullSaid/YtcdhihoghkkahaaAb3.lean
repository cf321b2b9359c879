/- Operations, part two: what makes a block, and what writes into one; structs and arrays as values. -/
import Derived.Test.YtcdhihoghkkahaaAb2
import Derived.Laws.CopyRow
set_option linter.all false
namespace Go.Proofs.Ytcdhihoghkkahaa.Ab
open Go

/-! ### A new block -/
theorem alloc_step {m : Heap} {w : World} (hs : Sat m w) (o : Obj) (x : ABlk) (hx : ∀ m' w', Ext m w m' w' → BRel m' w' x (some o)) :
    Sat (hupd m w.heap.size x) (w.alloc o) ∧ Ext m w (hupd m w.heap.size x) (w.alloc o) := by
  have hold : ∀ b, b < w.heap.size → (w.alloc o).heap[b]? = w.heap[b]? := by
    intro b hb
    simp only [World.alloc, Array.getElem?_push]
    rw [if_neg (by omega)]
  have e : Ext m w (hupd m w.heap.size x) (w.alloc o) :=
    ⟨by simp, rfl, rfl, ⟨rfl, Nat.le_refl _⟩, fun b hb hm => ⟨hold b hb, by simp only [hupd]; rw [if_neg (by omega)]; exact hm⟩⟩
  refine ⟨fun b y hy => ?_, e⟩
  simp only [hupd] at hy
  split at hy
  · rename_i hb
    subst hb
    obtain rfl : x = y := by simpa using hy
    have : (w.alloc o).heap[w.heap.size]? = some o := by simp only [World.alloc, Array.getElem?_push, if_true]
    rw [this]; exact hx _ _ e
  · have := hs.lt hy
    rw [hold b this]
    exact (hs b y hy).ext e

theorem tells_alloc {P : Program} {s : Sem Value} {w : World} {m : Heap} {c : Prop} {x : ABlk} {mk : Nat → AVal} (hs : Sat m w)
    (h : c → ∃ o y, s.run P w = .ok y (w.alloc o) ∧ (∀ m' w', Ext m w m' w' → BRel m' w' x (some o)) ∧ VRel (hupd m w.heap.size x) (w.alloc o) (mk w.heap.size) y) : Tells P (.alloc c x mk) s w m := by
  rintro K ⟨hc, hK⟩
  obtain ⟨o, y, h1, h2, h3⟩ := h hc
  obtain ⟨k1, k2⟩ := alloc_step hs o x h2
  exact ⟨y, _, _, _, h1, hK _ hs.fresh, h3, k1, k2⟩

theorem brel_cells {m : Heap} {w : World} (vs : Array Value) (cs : List AVal) (t : TypeId) (h1 : cs.length = vs.size) (h2 : ∀ i, i < cs.length → VRel m w (cs.getD i .undef) (vs.getD i Go.undef)) :
    ∀ m' w', Ext m w m' w' → BRel m' w' (.cells cs cs.length) (some (.cells vs t)) :=
  fun _ _ e => ⟨vs, t, rfl, h1.symm, Nat.le_refl _, fun i hi => (h2 i hi).ext e⟩

/-- A type's zero cells. -/
def zc (P : Program) (t : TypeId) : Option (List AVal) := match P.info? t with
  | some i => match i.zero with
    | some v => match ofValue v with
      | .undef => none
      | z => some z.cells
    | none => none
  | none => none
theorem run_zc {P : Program} {t : TypeId} {cs : List AVal} (h : zc P t = some cs) (w : World) :
    ∃ v, (zeroValue t).run P w = .ok v w ∧ cs.length = v.cells.size ∧ ∀ m w', ∀ i, i < cs.length → VRel m w' (cs.getD i .undef) (v.cells.getD i Go.undef) := by
  unfold zc at h
  split at h
  · rename_i i hi
    split at h
    · rename_i v hv
      refine ⟨v, by unfold zeroValue typeInfo; simp [Sem.run_bind, hi, hv], ?_⟩
      split at h
      · simp at h
      · rename_i hne
        obtain rfl : (ofValue v).cells = cs := by simpa using h
        exact ⟨((ofValue_rel (fun _ => none) w v).cells hne).1, fun m w' => ((ofValue_rel m w' v).cells hne).2⟩
    · simp at h
  · simp at h

def aalloc (P : Program) (t : TypeId) : D := match zc P t with
  | some cs => .alloc True (.cells cs cs.length) (.ptr · 0)
  | none => .fail
theorem aalloc_tells {P : Program} {w : World} {m : Heap} {t : TypeId} (hs : Sat m w) : Tells P (aalloc P t) (Instr.alloc t true (.tuple #[])) w m := by
  unfold aalloc
  split
  · rename_i cs hz
    refine tells_alloc hs (fun _ => ?_)
    obtain ⟨v, h1, h2, h3⟩ := run_zc hz w
    refine ⟨.cells v.cells t, .pointer (some ⟨w.heap.size, 0, none⟩), ?_, brel_cells _ _ _ h2 (h3 m w), .ptr _ _⟩
    simp [Instr.alloc, h1, newVar, newRow]
  · exact tells_fail

def abox (t : TypeId) : AVal → D
  | .undef => .fail
  | v => .alloc True (.cells v.cells v.cells.length) (.ptr · 0)
theorem abox_tells {P : Program} {w : World} {m : Heap} {t : TypeId} {v : AVal} {x : Value} (hs : Sat m w) (hv : VRel m w v x) : Tells P (abox t v) (Instr.box t x) w m := by
  have key : v ≠ .undef → Tells P (.alloc True (.cells v.cells v.cells.length) (.ptr · 0)) (Instr.box t x) w m := by
    intro hne
    refine tells_alloc hs (fun _ => ?_)
    obtain ⟨h1, h2⟩ := hv.cells hne
    refine ⟨.cells x.cells t, .pointer (some ⟨w.heap.size, 0, none⟩), ?_, brel_cells _ _ _ h1 h2, .ptr _ _⟩
    simp [Instr.box, newVar, newRow]
  unfold abox
  split
  · exact tells_fail
  · rename_i h; exact key h

/-! ### Writing into a block -/
def splice (cs : List AVal) (o : Nat) (vs : List AVal) : List AVal := cs.take o ++ vs ++ cs.drop (o + vs.length)
theorem splice_length {cs vs : List AVal} {o : Nat} (h : o + vs.length ≤ cs.length) : (splice cs o vs).length = cs.length := by
  simp only [splice, List.length_append, List.length_take, List.length_drop]; omega
theorem splice_getD {cs vs : List AVal} {o : Nat} (h : o + vs.length ≤ cs.length) (i : Nat) :
    (splice cs o vs).getD i .undef = if i < o then cs.getD i .undef else if i < o + vs.length then vs.getD (i - o) .undef else cs.getD i .undef := by
  have ho : min o cs.length = o := by omega
  simp only [splice, List.getD_eq_getElem?_getD, List.append_assoc, List.getElem?_append, List.length_take, ho, List.getElem?_take, List.getElem?_drop]
  by_cases h1 : i < o
  · simp [h1]
  · by_cases h2 : i < o + vs.length
    · have : i - o < vs.length := by omega
      simp [h1, h2, this]
    · have : ¬ i - o < vs.length := by omega
      simp only [h1, h2, this, if_false]
      congr 2; omega

theorem write_step {m : Heap} {w w' : World} (hs : Sat m w) {p : Nat} {x y : ABlk} (hp : m p = some x) (h1 : w'.heap.size = w.heap.size) (h2 : w'.os = w.os) (h3 : w'.tape = w.tape) (h4 : w'.output = w.output ∧ w.drawn ≤ w'.drawn)
    (h5 : ∀ b, b ≠ p → w'.heap[b]? = w.heap[b]?) (h6 : ∀ m' w'', Ext m w m' w'' → BRel m' w'' y w'.heap[p]?) :
    Sat (hupd m p y) w' ∧ Ext m w (hupd m p y) w' := by
  have e : Ext m w (hupd m p y) w' := ⟨by omega, h2, h3, h4, fun b hb hm => by
    have hne : b ≠ p := fun hbp => by rw [hbp, hp] at hm; cases hm
    exact ⟨h5 b hne, by simp only [hupd]; rw [if_neg hne]; exact hm⟩⟩
  refine ⟨fun b z hz => ?_, e⟩
  simp only [hupd] at hz
  split at hz
  · rename_i hb
    subst hb
    obtain rfl : y = z := by simpa using hz
    exact h6 _ _ e
  · rename_i hb
    rw [h5 b hb]
    exact (hs b z hz).ext e

theorem store_step {P : Program} {m : Heap} {w : World} (hs : Sat m w) {p : Nat} {cs : List AVal} {N : Nat} (hp : m p = some (.cells cs N)) (o : Nat) (vs : List AVal) (xs : List Value)
    (hl : vs.length = xs.length) (hv : ∀ i, i < vs.length → VRel m w (vs.getD i .undef) (xs.getD i Go.undef)) (hf : vs.all AVal.flat = true) (hfit : o + vs.length ≤ cs.length) :
    ∃ w', (storeCells ⟨p, o, none⟩ xs).run P w = .ok () w' ∧ Sat (hupd m p (.cells (splice cs o vs) N)) w' ∧ Ext m w (hupd m p (.cells (splice cs o vs) N)) w' := by
  obtain ⟨arr, ty, k1, k2, k3, k4⟩ := hs p _ hp
  have h1 : ∀ v ∈ xs, v.oneCell' = true := by
    intro v hvm
    obtain ⟨i, hi, rfl⟩ := List.getElem_of_mem hvm
    have hi' : i < vs.length := by omega
    have hr := hv i hi'
    have e1 : xs.getD i Go.undef = xs[i] := by simp [List.getD_eq_getElem?_getD, hi]
    rw [e1] at hr
    refine hr.oneCell ?_
    have := List.all_eq_true.1 hf (vs.getD i .undef) (by simp [List.getD_eq_getElem?_getD, hi'])
    exact this
  have hst := run_storeCells_at P p o ty xs 0 arr w k1 (by omega) h1
  simp only [Nat.add_zero] at hst
  refine ⟨_, hst, ?_⟩
  have hlt : p < w.heap.size := (Array.getElem?_eq_some_iff.1 k1).1
  refine write_step hs hp ?_ rfl rfl ⟨rfl, Nat.le_refl _⟩ ?_ ?_
  · simp [World.setRow]
  · intro b hb
    simp only [World.setRow, Array.getElem?_modify]
    rw [if_neg (fun h => hb h.symm)]
  · intro m' w'' e
    have hrow := setRow_heap w p arr ((arr.toList.take o ++ xs ++ arr.toList.drop (o + xs.length)).toArray) ty (0, 0) k1
    rw [hrow]
    refine ⟨_, ty, rfl, ?_, ?_, fun i hi => ?_⟩
    · simp; omega
    · rw [splice_length hfit]; exact k3
    · rw [splice_length hfit] at hi
      rw [splice_getD hfit]
      have ho : min o arr.toList.length = o := by simp; omega
      have hx : ((arr.toList.take o ++ xs ++ arr.toList.drop (o + xs.length)).toArray).getD i Go.undef =
          if i < o then arr.getD i Go.undef else if i < o + xs.length then xs.getD (i - o) Go.undef else arr.getD i Go.undef := by
        simp only [Array.getD_eq_getD_getElem?, List.getElem?_toArray, List.append_assoc, List.getElem?_append, List.length_take, ho, List.getElem?_take, List.getElem?_drop]
        by_cases g1 : i < o
        · simp [g1]
        · by_cases g2 : i < o + xs.length
          · have : i - o < xs.length := by omega
            simp [g1, g2, this, List.getD_eq_getElem?_getD]
          · have : ¬ i - o < xs.length := by omega
            simp only [g1, g2, this, if_false]
            simp
            congr 2; omega
      rw [hx, ← hl]
      by_cases g1 : i < o
      · simp only [g1, if_true]; exact (k4 i (by omega)).ext e
      · by_cases g2 : i < o + vs.length
        · simp only [g1, g2, if_true, if_false]; exact (hv (i - o) (by omega)).ext e
        · simp only [g1, g2, if_false]; exact (k4 i hi).ext e

def astore (P : Program) (t : TypeId) : AVal → AVal → D
  | .ptr b o, v => match tk P t with
    | some (_, n) => .write b (fun x => match x with | .cells cs _ => (match v with | .undef => False | _ => True) ∧ v.cells.length = n ∧ v.cells.all AVal.flat = true ∧ o + n ≤ cs.length | _ => False)
        (fun x => match x with | .cells cs N => .cells (splice cs o v.cells) N | y => y) (.tuple [])
    | none => .fail
  | _, _ => .fail
theorem astore_tells {P : Program} {w : World} {m : Heap} {t : TypeId} {v u : AVal} {x y : Value} (hs : Sat m w) (hv : VRel m w v x) (hu : VRel m w u y) :
    Tells P (astore P t v u) (do Instr.storeAt t x y; pure Go.undef) w m := by
  unfold astore
  split
  · rename_i b o
    split
    · rename_i a n ht
      intro K hK
      simp only [D.run] at hK
      split at hK
      · rename_i z hz
        cases z with
        | cells cs N =>
          obtain ⟨⟨hne, hlen, hfl, hfit⟩, hK⟩ := hK
          have hne' : u ≠ .undef := by rintro rfl; exact hne
          obtain ⟨h1, h2⟩ := hu.cells hne'
          cases hv
          have hl : u.cells.length = y.cells.toList.length := by simpa using h1
          have hgd : ∀ i, i < u.cells.length → VRel m w (u.cells.getD i .undef) (y.cells.toList.getD i Go.undef) := by
            intro i hi
            have := h2 i hi
            simpa [Array.getD_eq_getD_getElem?, List.getD_eq_getElem?_getD] using this
          obtain ⟨w', k1, k2, k3⟩ := store_step (P := P) hs hz o u.cells y.cells.toList hl hgd hfl (by omega)
          refine ⟨Go.undef, w', .tuple [], _, ?_, hK, .tuple [] #[] rfl (fun i hi => by simp at hi), k2, k3⟩
          have hsz : y.cells.size = n := by omega
          simp [Instr.storeAt, Instr.sureAddr, storeVar, run_sizeOf' ht, hsz, k1]
        | map es => exact hK.1.elim
        | obj o => exact hK.1.elim
        | loop => exact hK.1.elim
      · exact hK.elim
    · exact tells_fail
  · exact tells_fail

end Go.Proofs.Ytcdhihoghkkahaa.Ab
