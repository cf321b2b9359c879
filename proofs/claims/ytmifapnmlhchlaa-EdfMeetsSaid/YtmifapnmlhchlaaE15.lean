/- The document's run. -/
import Derived.Test.YtmifapnmlhchlaaE14
set_option linter.all false
namespace Go.Proofs.Ytmifapnmlhchlaa
open Go Go.Proofs.Ytmifapnmlhchlaa.Ab
open Go.Proofs (Try.prog)
set_option maxRecDepth 100000
theorem ltW_irrefl (n : Int) (a : Wt) : ltW n a a = false := (ltW_false n a a).2 (by unfold LW LJ; omega)
/-- What is not done. -/
def rem (D : List Bool) (J : List Jb) : List Wt := (idxJ J).filter fun w => !(D.getD w.2.toNat false)
theorem mem_idx {J : List Jb} {w : Wt} : w ∈ idxJ J ↔ ∃ i, i < J.length ∧ w = (J.getD i default, (i : Int)) := by
  constructor
  · intro h
    obtain ⟨i, hi, rfl⟩ := List.getElem_of_mem h
    have hi' := hi
    rw [idxJ_len] at hi'
    exact ⟨i, hi', by rw [idxJ_get]; simp [List.getD_eq_getElem?_getD, hi']⟩
  · rintro ⟨i, hi, rfl⟩
    have hi' : i < (idxJ J).length := by rw [idxJ_len]; exact hi
    have := List.getElem_mem hi'
    rw [idxJ_get] at this
    simpa [List.getD_eq_getElem?_getD, hi] using this
theorem mem_rem {D : List Bool} {J : List Jb} {w : Wt} : w ∈ rem D J ↔ ∃ i, i < J.length ∧ w = (J.getD i default, (i : Int)) ∧ D.getD i false = false := by
  unfold rem
  rw [List.mem_filter, mem_idx]
  constructor
  · rintro ⟨⟨i, hi, rfl⟩, h⟩
    exact ⟨i, hi, rfl, by simpa using h⟩
  · rintro ⟨i, hi, rfl, h⟩
    exact ⟨⟨i, hi, rfl⟩, by simpa using h⟩
theorem rem_start (J : List Jb) (k : Nat) : rem (List.replicate k false) J = idxJ J := by
  unfold rem
  rw [List.filter_eq_self]
  intro w _
  simp only [List.getD_eq_getElem?_getD, List.getElem?_replicate, Bool.not_eq_true']
  split <;> rfl
theorem rem_set {D : List Bool} {J : List Jb} {i : Nat} (hi : i < J.length) (hd : D.length = J.length) (h : D.getD i false = false) : ((J.getD i default, (i : Int)) :: rem (D.set i true) J).Perm (rem D J) := by
  have hi' : i < (idxJ J).length := by rw [idxJ_len]; exact hi
  have hx : (idxJ J).getD i default = (J.getD i default, (i : Int)) := by
    rw [List.getD_eq_getElem?_getD, List.getElem?_eq_getElem hi', idxJ_get]
    simp [List.getD_eq_getElem?_getD, hi]
  have hc := cut_at (idxJ J) i hi'
  rw [hx] at hc
  have f1 : ∀ u ∈ (idxJ J).take i, (!((D.set i true).getD u.2.toNat false)) = !(D.getD u.2.toNat false) := by
    intro u hu
    obtain ⟨j, hj, hjl, rfl⟩ := take_mem _ _ hu
    have e : (idxJ J).getD j default = (J[j]'(by rw [idxJ_len] at hjl; exact hjl), (j : Int)) := by
      rw [List.getD_eq_getElem?_getD, List.getElem?_eq_getElem hjl, idxJ_get]; rfl
    rw [e]
    simp only [Int.toNat_natCast, List.getD_eq_getElem?_getD]
    rw [List.getElem?_set_ne (by omega)]
  have f2 : ∀ u ∈ (idxJ J).drop (i + 1), (!((D.set i true).getD u.2.toNat false)) = !(D.getD u.2.toNat false) := by
    intro u hu
    obtain ⟨j, hj, hjl, rfl⟩ := drop_mem _ _ hu
    have e : (idxJ J).getD j default = (J[j]'(by rw [idxJ_len] at hjl; exact hjl), (j : Int)) := by
      rw [List.getD_eq_getElem?_getD, List.getElem?_eq_getElem hjl, idxJ_get]; rfl
    rw [e]
    simp only [Int.toNat_natCast, List.getD_eq_getElem?_getD]
    rw [List.getElem?_set_ne (by omega)]
  unfold rem
  conv => lhs; rw [hc]
  conv => rhs; rw [hc]
  rw [List.filter_append, List.filter_append, List.filter_congr f1, List.filter_cons, List.filter_cons, List.filter_congr f2]
  have p1 : (!((D.set i true).getD (J.getD i default, (i : Int)).2.toNat false)) = false := by simp [List.getD_eq_getElem?_getD, hd, hi]
  have p2 : (!(D.getD (J.getD i default, (i : Int)).2.toNat false)) = true := by simpa using h
  rw [if_neg (by rw [p1]; simp), if_pos p2]
  exact List.perm_middle.symm
/-- The nearest time, among the first i. -/
def Soon (D : List Bool) (J : List Jb) (i : Nat) (s : Int) : Prop := (s = 1152921504606846976 ∨ ∃ u ∈ rem D J, s = kT u) ∧ ∀ u ∈ rem D J, u.2 < (i : Int) → s ≤ kT u
/-- The best, among the first i. -/
def Best (n : Int) (D : List Bool) (J : List Jb) (now : Int) (i : Nat) (b : Int) : Prop := (b = -1 ∧ ∀ u ∈ rem D J, u.2 < (i : Int) → now < kT u) ∨ ∃ c : Nat, c < i ∧ b = (c : Int) ∧ (J.getD c default, (c : Int)) ∈ rem D J ∧ kT (J.getD c default, (c : Int)) ≤ now ∧ ∀ u ∈ rem D J, u.2 < (i : Int) → kT u ≤ now → ltW n u (J.getD c default, (c : Int)) = false
theorem rem_last {D : List Bool} {J : List Jb} {i : Nat} {u : Wt} (hu : u ∈ rem D J) (h : u.2 < ((i + 1 : Nat) : Int)) : u.2 < (i : Int) ∨ (u = (J.getD i default, (i : Int)) ∧ D.getD i false = false) := by
  obtain ⟨j, hj, rfl, hd⟩ := mem_rem.1 hu
  by_cases e : j = i
  · subst e; exact .inr ⟨rfl, hd⟩
  · exact .inl (by simp only at h ⊢; omega)
theorem Soon.skip {D : List Bool} {J : List Jb} {i : Nat} {s : Int} (h : Soon D J i s) (hd : D.getD i false = true) : Soon D J (i + 1) s := by
  refine ⟨h.1, fun u hu hi => ?_⟩
  rcases rem_last hu hi with k | ⟨-, k⟩
  · exact h.2 u hu k
  · rw [hd] at k; cases k
theorem Best.skip {n : Int} {D : List Bool} {J : List Jb} {now : Int} {i : Nat} {b : Int} (h : Best n D J now i b) (hd : D.getD i false = true) : Best n D J now (i + 1) b := by
  rcases h with ⟨rfl, h⟩ | ⟨c, h1, rfl, h2, h3, h4⟩
  · refine .inl ⟨rfl, fun u hu hi => ?_⟩
    rcases rem_last hu hi with k | ⟨-, k⟩
    · exact h u hu k
    · rw [hd] at k; cases k
  · refine .inr ⟨c, by omega, rfl, h2, h3, fun u hu hi hk => ?_⟩
    rcases rem_last hu hi with k | ⟨-, k⟩
    · exact h4 u hu k hk
    · rw [hd] at k; cases k
theorem Soon.step {D : List Bool} {J : List Jb} {i : Nat} {s s' : Int} (h : Soon D J i s) (hi : i < J.length) (hd : D.getD i false = false) (hs : s' = if kT (J.getD i default, (i : Int)) < s then kT (J.getD i default, (i : Int)) else s) : Soon D J (i + 1) s' := by
  subst hs
  refine ⟨?_, fun u hu hk => ?_⟩
  · split
    · exact .inr ⟨_, mem_rem.2 ⟨i, hi, rfl, hd⟩, rfl⟩
    · exact h.1
  · rcases rem_last hu hk with k | ⟨rfl, -⟩
    · have := h.2 u hu k
      split <;> omega
    · split <;> omega
theorem Best.late {n : Int} {D : List Bool} {J : List Jb} {now : Int} {i : Nat} {b : Int} (h : Best n D J now i b) (hk : ¬ kT (J.getD i default, (i : Int)) ≤ now) : Best n D J now (i + 1) b := by
  rcases h with ⟨rfl, h⟩ | ⟨c, h1, rfl, h2, h3, h4⟩
  · refine .inl ⟨rfl, fun u hu hi => ?_⟩
    rcases rem_last hu hi with k | ⟨rfl, -⟩
    · exact h u hu k
    · omega
  · refine .inr ⟨c, by omega, rfl, h2, h3, fun u hu hi hk2 => ?_⟩
    rcases rem_last hu hi with k | ⟨rfl, -⟩
    · exact h4 u hu k hk2
    · omega
theorem Best.first {n : Int} {D : List Bool} {J : List Jb} {now : Int} {i : Nat} {b : Int} (h : Best n D J now i b) (hi : i < J.length) (hd : D.getD i false = false) (hk : kT (J.getD i default, (i : Int)) ≤ now) (hb : b < 0) : Best n D J now (i + 1) (i : Int) := by
  rcases h with ⟨rfl, h⟩ | ⟨c, h1, rfl, h2, h3, h4⟩
  · refine .inr ⟨i, by omega, rfl, mem_rem.2 ⟨i, hi, rfl, hd⟩, hk, fun u hu hi2 hk2 => ?_⟩
    rcases rem_last hu hi2 with k | ⟨rfl, -⟩
    · have := h u hu k; omega
    · exact ltW_irrefl n _
  · omega
theorem Best.than {n : Int} {D : List Bool} {J : List Jb} {now : Int} {i c : Nat} (h : Best n D J now i (c : Int)) (hi : i < J.length) (hd : D.getD i false = false) (hk : kT (J.getD i default, (i : Int)) ≤ now) (q : Bool) (hq : q = true ↔ LJ n (J.getD i default) (J.getD c default)) :
    Best n D J now (i + 1) (if q = true then (i : Int) else (c : Int)) := by
  rcases h with ⟨e, h⟩ | ⟨c', h1, e, h2, h3, h4⟩
  · omega
  · obtain rfl : c = c' := by omega
    have hlt : ltW n (J.getD i default, (i : Int)) (J.getD c default, (c : Int)) = q := by
      rw [Bool.eq_iff_iff, ltW_iff, hq]
      unfold LW
      constructor
      · rintro (h | ⟨-, h⟩)
        · exact h
        · simp only at h; omega
      · exact .inl
    cases q with
    | true =>
      rw [if_pos rfl]
      refine .inr ⟨i, by omega, rfl, mem_rem.2 ⟨i, hi, rfl, hd⟩, hk, fun u hu hi2 hk2 => ?_⟩
      rcases rem_last hu hi2 with k | ⟨rfl, -⟩
      · have a := h4 u hu k hk2
        cases hx : ltW n u (J.getD i default, (i : Int)) with
        | false => rfl
        | true =>
          exfalso
          rw [ltW_iff] at hx hlt
          rw [ltW_false] at a
          unfold LW LJ at hx hlt a
          omega
      · exact ltW_irrefl n _
    | false =>
      rw [if_neg (by simp)]
      refine .inr ⟨c, by omega, rfl, h2, h3, fun u hu hi2 hk2 => ?_⟩
      rcases rem_last hu hi2 with k | ⟨rfl, -⟩
      · exact h4 u hu k hk2
      · exact hlt
end Go.Proofs.Ytmifapnmlhchlaa
