/- The library's sort, at rows of numbers that a call owns. -/
import Derived.Test.YtdckcophbmnjjaaGreatDoorLg7
import Derived.Shelf.SortG.Plain
import Derived.Shelf.SortG.SortNone
set_option linter.all false
namespace Go.Proofs.YtdckcophbmnjjaaGreatDoor.Ab
open Go Go.Sort Go.Shelf Go.Proofs
theorem ints_wp {P : Program} {G : Nat → AVal} {fid : Nat} (he : enters P fid = true)
    (h : ∀ (blk off cap : Nat) (zs : List Int) (w : World), Holds (Value.int .i64) w blk off zs.toArray → blk < w.heap.size → zs.length < 4611686018427387904 →
      Calls P fid #[.slice (some ⟨blk, off, none⟩) zs.length cap] w fun e w' => e = .returned (.tuple #[]) ∧ ∃ n os, w' = grow (putRow (Value.int .i64) (Go.Sort.ahead w n) blk off (zs.mergeSort fun x y => decide (x ≤ y)).toArray) os)
    (C : List Int) (pre post : List AVal) (N pb cap : Nat) (m : Heap) (K : AVal → Heap → Prop) (hm : m pb = some (.cells (pre ++ (C.map (AVal.int .i64) ++ post)) N)) (hn : C.length < 4611686018427387904)
    (hK : K (.tuple []) (hupd m pb (.cells (pre ++ ((C.mergeSort fun x y => decide (x ≤ y)).map (AVal.int .i64) ++ post)) N))) :
    CallWP P G fid [.slice pb pre.length C.length cap] m K := by
  refine .inl ⟨he, fun w cargs hs hgo hl hv => ?_⟩
  have hargs : cargs = #[.slice (some ⟨pb, pre.length, none⟩) C.length cap] := by
    obtain ⟨l⟩ := cargs
    match l, hl, hv with
    | [p], _, hv =>
      have h0 := hv 0 (by simp)
      simp at h0
      cases h0
      rfl
  obtain ⟨arr, ty, b1, b2, b3, b4⟩ := hs pb _ hm
  have hlen : (pre ++ (C.map (AVal.int .i64) ++ post)).length = pre.length + (C.length + post.length) := by simp
  have hblk : pb < w.heap.size := (Array.getElem?_eq_some_iff.1 b1).1
  have hval : ∀ j, j < C.length → arr.getD (pre.length + j) Go.undef = .int .i64 (C.toArray[j]!) := by
    intro j hj
    have := b4 (pre.length + j) (by omega)
    have e : (pre ++ (C.map (AVal.int .i64) ++ post)).getD (pre.length + j) .undef = .int .i64 (C.toArray[j]!) := by
      rw [List.getD_eq_getElem?_getD, List.getElem?_append_right (by omega), Nat.add_sub_cancel_left, List.getElem?_append_left (by simpa using hj)]
      simp [hj]
    rw [e] at this
    generalize arr.getD (pre.length + j) Go.undef = y at this ⊢
    cases this
    rfl
  have hH : Holds (Value.int .i64) w pb pre.length C.toArray := by
    intro j hj
    have hj' : j < C.length := by simpa using hj
    have hlt : pre.length + j < arr.size := by omega
    refine ⟨?_, ?_⟩
    · have := hval j hj'
      simp only [World.cell?, b1, Option.isSome_none, Bool.false_eq_true, if_false, id]
      rw [← this]
      simp [Array.getD_eq_getD_getElem?, hlt]
    · simp [World.frozen?, b1]
  have h := h pb pre.length cap C w hH hblk hn
  rw [hargs]
  refine h.mono ?_
  rintro e w' ⟨rfl, n, os, rfl⟩
  obtain ⟨D, hD⟩ : ∃ D, D = C.mergeSort fun x y => decide (x ≤ y) := ⟨_, rfl⟩
  have hdl : D.length = C.length := by rw [hD, List.length_mergeSort]
  rw [← hD] at hK ⊢
  have hheap : (grow (putRow (Value.int .i64) (Go.Sort.ahead w n) pb pre.length D.toArray) os).heap[pb]? = some (.cells (putCells (Value.int .i64) pre.length D.toArray arr) ty (0, 0)) := by
    simp only [putRow, mapBlock, Go.Sort.ahead, grow]
    rw [Array.getElem?_append_left (by simpa using hblk), Array.getElem?_modify, if_pos rfl, b1]
    rfl
  have hother : ∀ b, b < w.heap.size → b ≠ pb → (grow (putRow (Value.int .i64) (Go.Sort.ahead w n) pb pre.length D.toArray) os).heap[b]? = w.heap[b]? := by
    intro b hb hne
    simp only [putRow, mapBlock, Go.Sort.ahead, grow]
    rw [Array.getElem?_append_left (by simpa using hb), Array.getElem?_modify, if_neg (Ne.symm hne)]
  have hext : Ext m w (hupd m pb (.cells (pre ++ (D.map (AVal.int .i64) ++ post)) N)) (grow (putRow (Value.int .i64) (Go.Sort.ahead w n) pb pre.length D.toArray) os) := by
    refine ⟨?_, rfl, rfl, ⟨rfl, ?_⟩, fun b hb hmb => ?_⟩
    · simp [putRow, mapBlock, Go.Sort.ahead, grow]
    · simp [putRow, mapBlock, Go.Sort.ahead, grow]
    · have hne : b ≠ pb := fun e => by rw [e, hm] at hmb; cases hmb
      exact ⟨hother b hb hne, by rw [hupd_ne hne]; exact hmb⟩
  refine ⟨.tuple #[], .tuple [], _, rfl, hK, .tuple [] #[] rfl (fun i hi => by simp at hi), ?_, hext⟩
  intro b x hx
  by_cases hb : b = pb
  · subst hb
    rw [hupd_at, if_pos rfl] at hx
    cases hx
    rw [hheap]
    refine ⟨_, ty, rfl, by simp [putCells, b2], ?_, fun i hi => ?_⟩
    · rw [show (pre ++ (D.map (AVal.int .i64) ++ post)).length = pre.length + (D.length + post.length) by simp]; omega
    · rw [show (pre ++ (D.map (AVal.int .i64) ++ post)).length = pre.length + (D.length + post.length) by simp] at hi
      have hia : i < arr.size := by omega
      have hput : (putCells (Value.int .i64) pre.length D.toArray arr).getD i Go.undef = if pre.length ≤ i ∧ i < pre.length + D.length then .int .i64 (D.toArray[i - pre.length]!) else arr.getD i Go.undef := by
        simp only [putCells, Array.getD_eq_getD_getElem?, Array.getElem?_mapIdx, List.size_toArray]
        rw [Array.getElem?_eq_getElem hia]
        simp only [Option.map_some, Option.getD_some]
      rw [hput]
      by_cases hin : pre.length ≤ i ∧ i < pre.length + D.length
      · rw [if_pos hin]
        have e : (pre ++ (D.map (AVal.int .i64) ++ post)).getD i .undef = .int .i64 (D.toArray[i - pre.length]!) := by
          rw [List.getD_eq_getElem?_getD, List.getElem?_append_right (by omega), List.getElem?_append_left (by simp; omega)]
          simp [show i - pre.length < D.length by omega]
        rw [e]
        exact .int _ _
      · rw [if_neg hin]
        have hold := (b4 i (by omega)).ext hext
        have e : (pre ++ (D.map (AVal.int .i64) ++ post)).getD i .undef = (pre ++ (C.map (AVal.int .i64) ++ post)).getD i .undef := by
          simp only [List.getD_eq_getElem?_getD]
          congr 1
          by_cases h0 : i < pre.length
          · rw [List.getElem?_append_left h0, List.getElem?_append_left h0]
          · have r1 : ∀ Z : List AVal, pre.length + Z.length ≤ i → (pre ++ (Z ++ post))[i]? = post[i - pre.length - Z.length]? := by
              intro Z hZ
              rw [List.getElem?_append_right (by omega), List.getElem?_append_right (by omega)]
            rw [r1 _ (by rw [List.length_map]; omega), r1 _ (by rw [List.length_map]; omega), List.length_map, List.length_map, hdl]
        rw [e]; exact hold
  · rw [hupd_ne hb] at hx
    have := (hs b x hx).ext hext
    rw [hother b (hs.lt hx) hb]
    exact this
end Go.Proofs.YtdckcophbmnjjaaGreatDoor.Ab
namespace Go.Proofs.YtdckcophbmnjjaaGreatDoor.Ab
open Go Go.Sort Go.Shelf Go.Proofs
theorem ints_nil {P : Program} {G : Nat → AVal} {fid : Nat} (he : enters P fid = true)
    (h : ∀ (p : Option Addr) (cap : Nat) (w : World), Calls P fid #[.slice p 0 cap] w fun e w' => e = .returned (.tuple #[]) ∧ w' = w)
    (m : Heap) (K : AVal → Heap → Prop) (hK : K (.tuple []) m) : CallWP P G fid [.nils] m K := by
  refine .inl ⟨he, fun w cargs hs hgo hl hv => ?_⟩
  have hargs : ∃ p c, cargs = #[.slice p 0 c] := by
    obtain ⟨l⟩ := cargs
    match l, hl, hv with
    | [p], _, hv =>
      have h0 := hv 0 (by simp)
      simp at h0
      cases h0
      exact ⟨_, _, rfl⟩
  obtain ⟨p, c, rfl⟩ := hargs
  refine (h p c w).mono ?_
  rintro e w' ⟨rfl, rfl⟩
  exact ⟨.tuple #[], .tuple [], _, rfl, hK, .tuple [] #[] rfl (fun i hi => by simp at hi), hs, Ext.refl _ _⟩
end Go.Proofs.YtdckcophbmnjjaaGreatDoor.Ab
