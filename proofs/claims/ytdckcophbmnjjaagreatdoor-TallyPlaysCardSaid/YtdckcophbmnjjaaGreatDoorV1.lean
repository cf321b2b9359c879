/- A few streams can be; fewer of them too. -/
import Derived.Test.YtdckcophbmnjjaaGreatDoorY12
set_option linter.all false
namespace Go.Proofs.YtdckcophbmnjjaaGreatDoor
open Go Go.Proofs.YtdckcophbmnjjaaGreatDoor.Ab
open Go.Proofs (Tryz.prog)
theorem getD_get {α : Type} [Inhabited α] {C : List α} {i : Nat} (h : i < C.length) : C.getD i default = C[i] := by simp [List.getD_eq_getElem?_getD, h]
theorem rightC_iff (C : List Stm) (n : Int) : rightC C n ↔ C.length ≤ 64 ∧ (1 ≤ n ∧ n ≤ 1073741824) ∧ (∀ s ∈ C, rightS s = 0) ∧ C.Pairwise (fun a b => a.1 ≠ b.1) ∧ ∀ s ∈ C, s.2.2.1 = 1 → n ≤ s.2.2.2.2.1 := by
  constructor
  · rintro ⟨h1, h2, h3, h4, h5⟩
    refine ⟨h1, h2, h3, List.pairwise_iff_getElem.2 (fun i j hi hj hij e => ?_), h5⟩
    have a1 := h4 j hj
    have a2 := findF_le hi
    rw [getD_get hj] at a1
    rw [getD_get hi, e] at a2
    omega
  · rintro ⟨h1, h2, h3, h4, h5⟩
    refine ⟨h1, h2, h3, fun i hi => ?_, h5⟩
    rw [findF_at (i := i) hi rfl (fun s hs e => ?_)]
    · omega
    · obtain ⟨j, hj, rfl⟩ := List.getElem_of_mem hs
      rw [List.length_take] at hj
      rw [List.getElem_take, getD_get hi] at e
      exact List.pairwise_iff_getElem.1 h4 j i (by omega) hi (by omega) e
theorem rightC_sub {C D : List Stm} {n : Int} (h : rightC C n) (hs : D.Sublist C) : rightC D n := by
  rw [rightC_iff] at h ⊢
  exact ⟨Nat.le_trans hs.length_le h.1, h.2.1, fun s hx => h.2.2.1 s (hs.subset hx), h.2.2.2.1.sublist hs, fun s hx => h.2.2.2.2 s (hs.subset hx)⟩
theorem few_at (C : List Stm) (i j : Nat) (h : j < (fewN C i).length) : (fewN C i)[j].1 = j ∧ 100 ≤ (fewN C i)[j].2.2.2.2.1 := by
  unfold fewN at h ⊢
  rw [List.getElem_map]
  simp only [List.getElem_zipIdx, Nat.zero_add]
  unfold streamF
  refine ⟨rfl, ?_⟩
  show 100 ≤ partF _ _ + 100
  have a := partF_in ((C.take i)[j]'(by simpa using h)).2.2.2.1 4000 (by decide)
  have := (partF_in ((C.take i)[j]'(by simpa using h)).2.2.2.2.1 (partF ((C.take i)[j]'(by simpa using h)).2.2.2.1 4000 + 101) (by omega)).1
  omega
theorem few_rightC (C : List Stm) (n : Int) (h1 : 1 ≤ n) (h2 : n ≤ 100) : rightC (fewN C 6) n := by
  rw [rightC_iff]
  refine ⟨by rw [few_len]; omega, ⟨h1, by omega⟩, few_right C 6 (by decide), List.pairwise_iff_getElem.2 (fun i j hi hj hij e => ?_), fun s hs _ => ?_⟩
  · rw [(few_at C 6 i hi).1, (few_at C 6 j hj).1] at e; omega
  · obtain ⟨j, hj, rfl⟩ := List.getElem_of_mem hs
    have := (few_at C 6 j hj).2; omega
end Go.Proofs.YtdckcophbmnjjaaGreatDoor
