/- Merging in place: what lists come to. -/
import Derived.Test.YtdckcophbmnjjaaGreatDoorLg7
set_option linter.all false
namespace Go.Proofs.YtdckcophbmnjjaaGreatDoor.Ab
section
variable {α : Type} [Inhabited α]
theorem getD_mid (A : List α) (x : α) (B : List α) : (A ++ x :: B).getD A.length default = x := by
  simp [List.getD_eq_getElem?_getD]
theorem getD_midN (A : List α) (x : α) (B : List α) {n : Nat} (hn : n = A.length) : (A ++ x :: B).getD n default = x := by
  subst hn; exact getD_mid A x B
theorem set_mid (A : List α) (x y : α) (B : List α) : (A ++ x :: B).set A.length y = A ++ y :: B := by
  simp
theorem swp_mid (A : List α) (x : α) (M : List α) (y : α) (B : List α) {i j : Nat} (hi : i = A.length) (hj : j = A.length + 1 + M.length) : swp (A ++ x :: (M ++ y :: B)) i j = A ++ y :: (M ++ x :: B) := by
  unfold swp
  have e1 : (A ++ x :: (M ++ y :: B)).getD i default = x := getD_midN A x _ hi
  have e2 : (A ++ x :: (M ++ y :: B)).getD j default = y := by
    have := getD_midN (A ++ x :: M) y B (n := j) (by simp; omega)
    simpa using this
  rw [e1, e2]
  subst hi
  rw [set_mid]
  have e3 : A ++ y :: (M ++ y :: B) = (A ++ y :: M) ++ y :: B := by simp
  have e4 : j = (A ++ y :: M).length := by simp; omega
  rw [e3, e4, set_mid]
  simp
theorem swp_mid' (A : List α) (x : α) (M : List α) (y : α) (B : List α) {i j : Nat} (hi : i = A.length) (hj : j = A.length + 1 + M.length) : swp (A ++ x :: (M ++ y :: B)) j i = A ++ y :: (M ++ x :: B) := by
  unfold swp
  have e1 : (A ++ x :: (M ++ y :: B)).getD i default = x := getD_midN A x _ hi
  have e2 : (A ++ x :: (M ++ y :: B)).getD j default = y := by
    have := getD_midN (A ++ x :: M) y B (n := j) (by simp; omega)
    simpa using this
  rw [e1, e2]
  have e3 : A ++ x :: (M ++ y :: B) = (A ++ x :: M) ++ y :: B := by simp
  have e4 : j = (A ++ x :: M).length := by simp; omega
  rw [e3, e4, set_mid]
  subst hi
  have e5 : (A ++ x :: M) ++ x :: B = A ++ x :: (M ++ x :: B) := by simp
  rw [e5, set_mid]
/-- A list, cut at a place within. -/
theorem cut_at (L : List α) (k : Nat) (h : k < L.length) : L = L.take k ++ L.getD k default :: L.drop (k + 1) := by
  have e : L.getD k default = L[k] := by simp [List.getD_eq_getElem?_getD, h]
  rw [e, ← List.drop_eq_getElem_cons h, List.take_append_drop]
theorem getD_mem (L : List α) (k : Nat) (h : k < L.length) : L.getD k default ∈ L := by
  simp [List.getD_eq_getElem?_getD, h]
theorem take_mem (L : List α) (k : Nat) {x : α} (h : x ∈ L.take k) : ∃ i, i < k ∧ i < L.length ∧ L.getD i default = x := by
  obtain ⟨i, hi, rfl⟩ := List.getElem_of_mem h
  simp only [List.length_take] at hi
  exact ⟨i, by omega, by omega, by simp [List.getD_eq_getElem?_getD, show i < L.length by omega]⟩
theorem drop_mem (L : List α) (k : Nat) {x : α} (h : x ∈ L.drop k) : ∃ i, k ≤ i ∧ i < L.length ∧ L.getD i default = x := by
  obtain ⟨i, hi, rfl⟩ := List.getElem_of_mem h
  simp only [List.length_drop] at hi
  exact ⟨k + i, by omega, by omega, by simp [List.getD_eq_getElem?_getD, show k + i < L.length by omega]⟩
/-- Swapping blocks, so far. -/
theorem swap_blocks (X P M Q Y : List α) (h : P.length = Q.length) (i : Nat) (hi : i < P.length) :
    swp (X ++ ((Q.take i ++ P.drop i) ++ (M ++ ((P.take i ++ Q.drop i) ++ Y)))) (X.length + i) (X.length + P.length + M.length + i) = X ++ ((Q.take (i + 1) ++ P.drop (i + 1)) ++ (M ++ ((P.take (i + 1) ++ Q.drop (i + 1)) ++ Y))) := by
  have hq : i < Q.length := by omega
  have ep : P.drop i = P.getD i default :: P.drop (i + 1) := by
    have e : P.getD i default = P[i] := by simp [List.getD_eq_getElem?_getD, hi]
    rw [e, ← List.drop_eq_getElem_cons hi]
  have eq : Q.drop i = Q.getD i default :: Q.drop (i + 1) := by
    have e : Q.getD i default = Q[i] := by simp [List.getD_eq_getElem?_getD, hq]
    rw [e, ← List.drop_eq_getElem_cons hq]
  have tp : P.take (i + 1) = P.take i ++ [P.getD i default] := by
    have e : P.getD i default = P[i] := by simp [List.getD_eq_getElem?_getD, hi]
    rw [e, List.take_append_getElem hi]
  have tq : Q.take (i + 1) = Q.take i ++ [Q.getD i default] := by
    have e : Q.getD i default = Q[i] := by simp [List.getD_eq_getElem?_getD, hq]
    rw [e, List.take_append_getElem hq]
  have := swp_mid (X ++ Q.take i) (P.getD i default) (P.drop (i + 1) ++ (M ++ P.take i)) (Q.getD i default) (Q.drop (i + 1) ++ Y) (i := X.length + i) (j := X.length + P.length + M.length + i)
    (by simp only [List.length_append, List.length_take]; omega) (by simp only [List.length_append, List.length_take, List.length_drop]; omega)
  rw [ep, eq, tp, tq]
  simpa only [List.append_assoc, List.cons_append, List.nil_append, List.singleton_append] using this
end
end Go.Proofs.YtdckcophbmnjjaaGreatDoor.Ab
