/- Those that are sent too late: the document's. -/
import Derived.Test.YtmifapnmlhchlaaE18
set_option linter.all false
namespace Go.Proofs.Ytmifapnmlhchlaa
open Go Go.Proofs.Ytmifapnmlhchlaa.Ab
open Go.Proofs (Try.prog)
set_option maxRecDepth 100000
theorem srtI_perm (C : List Int) : (srtI C).Perm C := List.mergeSort_perm _ _
theorem srtI_srt (C : List Int) : (srtI C).Pairwise (· ≤ ·) := by
  have := List.pairwise_mergeSort (le := fun (x y : Int) => decide (x ≤ y)) (by intro a b c; simp only [decide_eq_true_eq]; omega) (by intro a b; simp only [Bool.or_eq_true, decide_eq_true_eq]; omega) C
  refine this.imp ?_
  intro a b h
  simpa using h
theorem srtI_eq {A C : List Int} (hA : A.Pairwise (· ≤ ·)) (p : A.Perm C) : A = srtI C :=
  List.Perm.eq_of_pairwise (le := (· ≤ ·)) (fun x y _ _ a b => Int.le_antisymm a b) hA (srtI_srt C) (p.trans (srtI_perm C).symm)
theorem idx_nodup (J : List Jb) : ((idxJ J).map pT).Nodup := by
  rw [List.nodup_iff_pairwise_ne, List.pairwise_map]
  exact (idxJ_srt J).imp fun h e => by rw [e] at h; exact absurd h (by omega)
theorem sent_nodup {n : Int} {J : List Jb} {S : List (Wt × Int)} (h : Sends n (idxJ J) 0 S) : (S.map fun x => x.1.2).Nodup := by
  have := (h.perm.map pT).nodup_iff.2 (idx_nodup J)
  rw [List.map_map] at this
  exact this
theorem lates_eq {n : Int} {J : List Jb} {S : List (Wt × Int)} (h : Sends n (idxJ J) 0 S) {A : List Int} (hA : A.Pairwise (· < ·)) (hm : ∀ z, z ∈ A ↔ ∃ x ∈ S, x.1.2 = z ∧ lateX x = true) : A = srtI (latesOf S) := by
  refine srtI_eq (hA.imp Int.le_of_lt) ?_
  refine (List.perm_ext_iff_of_nodup ?_ ?_).2 ?_
  · rw [List.nodup_iff_pairwise_ne]
    exact hA.imp fun h e => by rw [e] at h; exact absurd h (by omega)
  · unfold latesOf
    refine (sent_nodup h).sublist ?_
    exact List.Sublist.map _ List.filter_sublist
  · intro z
    rw [hm]
    unfold latesOf
    rw [List.mem_map]
    constructor
    · rintro ⟨x, hx, e, hl⟩
      exact ⟨x, List.mem_filter.2 ⟨hx, hl⟩, e⟩
    · rintro ⟨x, hx, e⟩
      obtain ⟨h1, h2⟩ := List.mem_filter.1 hx
      exact ⟨x, h1, e, h2⟩
/-- The flags after some of what is sent. -/
def Flags (S : List (Wt × Int)) (i : Nat) (D : List Bool) : Prop := ∀ c : Nat, c < D.length → (D.getD c false = true ↔ ∃ x ∈ S.take i, x.1.2 = (c : Int) ∧ lateX x = true)
theorem Flags.step {S : List (Wt × Int)} {i c : Nat} {D : List Bool} (h : Flags S i D) (nd : (S.map fun x => x.1.2).Nodup) (hi : i < S.length) {x : Wt × Int} (hx : S.getD i default = x) (hc : x.1.2 = (c : Int)) (hcl : c < D.length) : Flags S (i + 1) (D.set c (lateX x)) := by
  have e : S.take (i + 1) = S.take i ++ [x] := by rw [← hx, List.take_add_one]; simp [List.getD_eq_getElem?_getD, hi]
  have hno : ∀ y ∈ S.take i, y.1.2 ≠ (c : Int) := by
    intro y hy ey
    obtain ⟨j, hj, hjl, rfl⟩ := take_mem _ _ hy
    have hp := List.pairwise_iff_getElem.1 (List.nodup_iff_pairwise_ne.1 nd) j i (by simpa using hjl) (by simpa using hi) hj
    simp only [List.getElem_map] at hp
    apply hp
    have a1 : S.getD j default = S[j] := by simp [List.getD_eq_getElem?_getD, hjl]
    have a2 : S.getD i default = S[i] := by simp [List.getD_eq_getElem?_getD, hi]
    rw [← a1, ← a2, ey, hx, hc]
  intro d hd
  rw [List.length_set] at hd
  rw [e]
  by_cases hdc : d = c
  · subst hdc
    rw [show (D.set d (lateX x)).getD d false = lateX x by simp [List.getD_eq_getElem?_getD, hd]]
    constructor
    · intro hl
      exact ⟨x, by simp, hc, hl⟩
    · rintro ⟨y, hy, ey, hl⟩
      rcases List.mem_append.1 hy with hy | hy
      · exact absurd ey (hno y hy)
      · rw [List.mem_singleton.1 hy] at hl; exact hl
  · rw [show (D.set c (lateX x)).getD d false = D.getD d false by rw [List.getD_eq_getElem?_getD, List.getD_eq_getElem?_getD, List.getElem?_set_ne (by omega)], h d hd]
    constructor
    · rintro ⟨y, hy, r⟩
      exact ⟨y, List.mem_append_left _ hy, r⟩
    · rintro ⟨y, hy, ey, hl⟩
      rcases List.mem_append.1 hy with hy | hy
      · exact ⟨y, hy, ey, hl⟩
      · rw [List.mem_singleton.1 hy, hc] at ey
        omega
end Go.Proofs.Ytmifapnmlhchlaa
