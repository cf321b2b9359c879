/- Lists in memory: what is read, and written, at a place; sorting by what stands ahead. -/
import Derived.Test.YtcdhihoghkkahaaAb26
set_option linter.all false
namespace Go.Proofs.Ytcdhihoghkkahaa.Ab
open Go

section
variable {α : Type} {enc : α → List AVal} {sz : Nat}
theorem flat_len (h : ∀ a, (enc a).length = sz) : ∀ (L : List α), (L.flatMap enc).length = L.length * sz
  | [] => by simp
  | a :: L => by simp [flat_len h L, h a, Nat.succ_mul]; omega
theorem flat_drop (h : ∀ a, (enc a).length = sz) : ∀ (L : List α) (R : List AVal) (i : Nat), i ≤ L.length → (L.flatMap enc ++ R).drop (i * sz) = (L.drop i).flatMap enc ++ R
  | L, R, 0, _ => by simp
  | [], R, i + 1, hi => by simp at hi
  | a :: L, R, i + 1, hi => by
    have e : (i + 1) * sz = (enc a).length + i * sz := by rw [h a, Nat.succ_mul]; omega
    simp only [List.flatMap_cons, List.append_assoc, e, List.drop_succ_cons]
    rw [← List.drop_drop, List.drop_left]
    exact flat_drop h L R i (by simpa using hi)
theorem flat_take (h : ∀ a, (enc a).length = sz) : ∀ (L : List α) (R : List AVal) (i : Nat), i ≤ L.length → (L.flatMap enc ++ R).take (i * sz) = (L.take i).flatMap enc
  | L, R, 0, _ => by simp
  | [], R, i + 1, hi => by simp at hi
  | a :: L, R, i + 1, hi => by
    have e : (i + 1) * sz = (enc a).length + i * sz := by rw [h a, Nat.succ_mul]; omega
    simp only [List.flatMap_cons, List.append_assoc, e, List.take_succ_cons]
    rw [List.take_length_add_append, flat_take h L R i (by simpa using hi)]
/-- What lies at a place. -/
theorem flat_at (h : ∀ a, (enc a).length = sz) (L : List α) (R : List AVal) (i : Nat) (hi : i < L.length) : ((L.flatMap enc ++ R).drop (i * sz)).take sz = enc L[i] := by
  rw [flat_drop h L R i (by omega), List.drop_eq_getElem_cons hi]
  simp only [List.flatMap_cons, List.append_assoc]
  rw [← h L[i], List.take_left]
/-- What is written at a place. -/
theorem flat_set (h : ∀ a, (enc a).length = sz) (L : List α) (R : List AVal) (i : Nat) (x : α) (hi : i < L.length) : splice (L.flatMap enc ++ R) (i * sz) (enc x) = (L.set i x).flatMap enc ++ R := by
  unfold splice
  have e : i * sz + (enc x).length = (i + 1) * sz := by rw [h x, Nat.succ_mul]
  rw [e, flat_take h L R i (by omega), flat_drop h L R (i + 1) (by omega), List.set_eq_take_append_cons_drop, if_pos hi]
  simp
theorem flat_getD (L : List α) (f : α → AVal) (R : List AVal) (i : Nat) (hi : i < L.length) : (L.flatMap (fun a => [f a]) ++ R).getD i .undef = f L[i] := by
  have := flat_at (enc := fun a => [f a]) (sz := 1) (fun _ => rfl) L R i hi
  rw [Nat.mul_one] at this
  rw [List.getD_eq_getElem?_getD]
  have e : (L.flatMap (fun a => [f a]) ++ R)[i]? = (((L.flatMap (fun a => [f a]) ++ R).drop i).take 1)[0]? := by simp [List.getElem?_take, List.getElem?_drop]
  rw [e, this]; rfl
theorem flat_room (h : ∀ a, (enc a).length = sz) (L : List α) (R : List AVal) (i : Nat) (hi : i < L.length) : i * sz + sz ≤ (L.flatMap enc ++ R).length := by
  rw [List.length_append, flat_len h]
  have : (i + 1) * sz ≤ L.length * sz := Nat.mul_le_mul_right _ hi
  rw [Nat.succ_mul] at this
  omega
end

/-! ### Order -/
/-- An order that may not part some: who is not behind. -/
structure SOrd {α : Type} (lt : α → α → Bool) : Prop where
  asym : ∀ a b, lt a b = true → lt b a = false
  tran : ∀ a b c, lt b a = false → lt c b = false → lt c a = false
def Srt {α : Type} (lt : α → α → Bool) (L : List α) : Prop := L.Pairwise fun a b => lt b a = false
def swp {α : Type} [Inhabited α] (L : List α) (i j : Nat) : List α := (L.set i (L.getD j default)).set j (L.getD i default)

section
variable {α : Type} [Inhabited α] {lt : α → α → Bool}
theorem swp_len (L : List α) (i j : Nat) : (swp L i j).length = L.length := by simp [swp]
theorem swp_getD (L : List α) (i j k : Nat) (hi : i < L.length) (hj : j < L.length) : (swp L i j).getD k default = if k = j then L.getD i default else if k = i then L.getD j default else L.getD k default := by
  simp only [swp, List.getD_eq_getElem?_getD, List.getElem?_set, List.length_set]
  by_cases h1 : j = k
  · subst h1; simp [hj]
  · by_cases h2 : i = k
    · subst h2; simp [h1, Ne.symm h1, hi]
    · simp [h1, h2, Ne.symm h1, Ne.symm h2]
theorem swp_perm (L : List α) (i j : Nat) (hi : i < L.length) (hj : j < L.length) : (swp L i j).Perm L := by
  have e : swp L i j = (L.toArray.swap i j hi hj).toList := by
    simp [swp, Array.swap, List.getD_eq_getElem?_getD, hi, hj]
  rw [e]
  exact (Array.swap_perm (xs := L.toArray) hi hj).toList
/-- What is sorted, place by place. -/
theorem srt_of (L : List α) (h : ∀ p q, p < q → q < L.length → lt (L.getD q default) (L.getD p default) = false) : Srt lt L := by
  unfold Srt
  rw [List.pairwise_iff_getElem]
  intro i j hi hj hij
  have := h i j hij hj
  simpa [List.getD_eq_getElem?_getD, hi, hj] using this
theorem srt_at {L : List α} (h : Srt lt L) (p q : Nat) (hpq : p < q) (hq : q < L.length) : lt (L.getD q default) (L.getD p default) = false := by
  unfold Srt at h
  rw [List.pairwise_iff_getElem] at h
  have := h p q (by omega) hq hpq
  simpa [List.getD_eq_getElem?_getD, show p < L.length by omega, hq] using this

/-- An element on its way to its place: all others of a .. i are sorted, none behind it is ahead of it. -/
structure Ins (lt : α → α → Bool) (C : List α) (a i j : Nat) : Prop where
  ji : j ≤ i
  aj : a ≤ j
  len : i < C.length
  oth : ∀ p q, a ≤ p → p < q → q ≤ i → p ≠ j → q ≠ j → lt (C.getD q default) (C.getD p default) = false
  beh : ∀ q, j < q → q ≤ i → lt (C.getD q default) (C.getD j default) = false
/-- a .. i is sorted. -/
def SrtTo (lt : α → α → Bool) (C : List α) (a i : Nat) : Prop := ∀ p q, a ≤ p → p < q → q < i → lt (C.getD q default) (C.getD p default) = false
theorem Ins.init {C : List α} {a i : Nat} (h : SrtTo lt C a i) (hi : i < C.length) (ha : a ≤ i) : Ins lt C a i i :=
  ⟨Nat.le_refl _, ha, hi, fun p q hap hpq hqi _ hqj => h p q hap hpq (by omega), fun q h1 h2 => by omega⟩
theorem Ins.done (O : SOrd lt) {C : List α} {a i j : Nat} (h : Ins lt C a i j) (hx : j = a ∨ lt (C.getD j default) (C.getD (j - 1) default) = false) : SrtTo lt C a (i + 1) := by
  intro p q hap hpq hq
  by_cases e1 : p = j
  · subst e1; exact h.beh q hpq (by omega)
  · by_cases e2 : q = j
    · subst e2
      rcases hx with hx | hx
      · omega
      · by_cases e3 : p = q - 1
        · subst e3; exact hx
        · have h2 := h.oth p (q - 1) hap (by omega) (by have := h.ji; omega) (by omega) (by omega)
          exact O.tran _ _ _ h2 hx
    · exact h.oth p q hap hpq (by omega) e1 e2
theorem Ins.step (O : SOrd lt) {C : List α} {a i j : Nat} (h : Ins lt C a i j) (hj : a < j) (hx : lt (C.getD j default) (C.getD (j - 1) default) = true) : Ins lt (swp C j (j - 1)) a i (j - 1) := by
  have hl := h.len
  have hji := h.ji
  have g : ∀ k, (swp C j (j - 1)).getD k default = if k = j - 1 then C.getD j default else if k = j then C.getD (j - 1) default else C.getD k default := fun k => swp_getD C j (j - 1) k (by omega) (by omega)
  refine ⟨by omega, by omega, by rw [swp_len]; exact hl, fun p q hap hpq hqi hp hq => ?_, fun q h1 h2 => ?_⟩
  · rw [g, g, if_neg hp, if_neg hq]
    by_cases e1 : p = j
    · subst e1
      rw [if_pos rfl, if_neg (by omega)]
      exact h.oth (p - 1) q (by omega) (by omega) hqi (by omega) (by omega)
    · rw [if_neg e1]
      by_cases e2 : q = j
      · subst e2
        rw [if_pos rfl]
        exact h.oth p (q - 1) hap (by omega) (by omega) (by omega) (by omega)
      · rw [if_neg e2]; exact h.oth p q hap hpq hqi e1 e2
  · rw [g, g, if_pos rfl, if_neg (by omega)]
    by_cases e1 : q = j
    · subst e1; rw [if_pos rfl]; exact O.asym _ _ hx
    · rw [if_neg e1]; exact h.beh q (by omega) h2
end
theorem intOrd : SOrd (fun a b : Int => decide (a < b)) := ⟨fun a b h => by simp at h ⊢; omega, fun a b c h1 h2 => by simp at h1 h2 ⊢; omega⟩
end Go.Proofs.Ytcdhihoghkkahaa.Ab
