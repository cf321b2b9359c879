/- The middle one of some numbers; rates kept round and round. -/
import Derived.Test.YthdglblbdobmoaaAb27
set_option linter.all false
namespace Go.Proofs.Ythdglblbdobmoaa
open Go Go.Proofs.Ythdglblbdobmoaa.Ab
def sortI (L : List Int) : List Int := L.mergeSort (fun a b => decide (a ≤ b))
theorem sortI_perm (L : List Int) : (sortI L).Perm L := List.mergeSort_perm L _
theorem sortI_len (L : List Int) : (sortI L).length = L.length := (sortI_perm L).length_eq
theorem sortI_srt (L : List Int) : (sortI L).Pairwise (fun a b => a ≤ b) := by
  have := List.pairwise_mergeSort (le := fun a b : Int => decide (a ≤ b)) (fun a b c h1 h2 => by simp at h1 h2 ⊢; omega) (fun a b => by simp; omega) L
  exact this.imp (by simp)
theorem sortI_eq {C L : List Int} (hp : C.Perm L) (hs : Srt (fun a b : Int => decide (a < b)) C) : C = sortI L := by
  refine List.Perm.eq_of_pairwise (le := fun a b : Int => a ≤ b) (fun a b _ _ h1 h2 => Int.le_antisymm h1 h2) ?_ (sortI_srt L) (hp.trans (sortI_perm L).symm)
  exact hs.imp (by intro a b h; simp at h; omega)
/-- The middle one; one's own, if there is none. -/
def med (L : List Int) : Int := if L = [] then 1048576 else (sortI L).getD ((L.length - 1) / 2) default
theorem med_perm {L L' : List Int} (h : L.Perm L') : med L = med L' := by
  have e : sortI L = sortI L' := sortI_eq ((sortI_perm L).trans h) (by
    have := sortI_srt L
    exact this.imp (by intro a b h; simp; omega))
  have n : L = [] ↔ L' = [] := ⟨fun e => by subst e; exact h.symm.eq_nil, fun e => by subst e; exact h.eq_nil⟩
  unfold med
  rw [e, h.length_eq]
  by_cases hn : L = []
  · rw [if_pos hn, if_pos (n.1 hn)]
  · rw [if_neg hn, if_neg (fun e => hn (n.2 e))]
theorem count_le (x : Int) : ∀ (C : List Int), C.countP (fun a => decide (a < x)) + C.countP (fun a => decide (a = x)) = C.countP (fun a => decide (a ≤ x))
  | [] => rfl
  | c :: C => by
    have := count_le x C
    simp only [List.countP_cons]
    by_cases h1 : c < x <;> by_cases h2 : c = x <;> simp [h1, h2] <;> (try omega)
    all_goals (split <;> omega)
theorem split_at (C : List Int) (w : Nat) (hw : w < C.length) (p : Int → Bool) : C.countP p = (C.take w).countP p + (if p C[w] = true then 1 else 0) + (C.drop (w + 1)).countP p := by
  conv => lhs; rw [← List.take_append_drop w C, List.drop_eq_getElem_cons hw]
  rw [List.countP_append, List.countP_cons]; omega
theorem sides {C : List Int} (hs : C.Pairwise (fun a b => a ≤ b)) (w : Nat) (hw : w < C.length) : (∀ a, a ∈ C.take w → a ≤ C[w]) ∧ ∀ a, a ∈ C.drop (w + 1) → C[w] ≤ a := by
  have e : C = C.take w ++ (C[w] :: C.drop (w + 1)) := by
    conv => lhs; rw [← List.take_append_drop w C, List.drop_eq_getElem_cons hw]
  rw [e, List.pairwise_append] at hs
  obtain ⟨_, h2, h3⟩ := hs
  exact ⟨fun a ha => h3 a ha _ List.mem_cons_self, fun a ha => (List.pairwise_cons.1 h2).1 a ha⟩
theorem few {C : List Int} (hs : C.Pairwise (fun a b => a ≤ b)) (w : Nat) (hw : w < C.length) (p : Int → Bool) (hp : ∀ a, C[w] ≤ a → p a = false) : C.countP p ≤ w := by
  rw [split_at C w hw p]
  have h1 : (C.drop (w + 1)).countP p = 0 := List.countP_eq_zero.2 (fun a ha => by rw [hp a ((sides hs w hw).2 a ha)]; simp)
  have h2 := List.countP_le_length (p := p) (l := C.take w)
  rw [h1, if_neg (by rw [hp _ (Int.le_refl _)]; simp)]
  rw [List.length_take] at h2
  omega
theorem many {C : List Int} (hs : C.Pairwise (fun a b => a ≤ b)) (w : Nat) (hw : w < C.length) (p : Int → Bool) (hp : ∀ a, a ≤ C[w] → p a = true) : w < C.countP p := by
  rw [split_at C w hw p]
  have h1 : (C.take w).countP p = (C.take w).length := List.countP_eq_length.2 (fun a ha => hp a ((sides hs w hw).1 a ha))
  rw [h1, if_pos (hp _ (Int.le_refl _)), List.length_take]
  omega
/-- The one that has so many below it is the middle one. -/
theorem med_rank {L : List Int} {x : Int} (h0 : L ≠ []) (h1 : L.countP (fun a => decide (a < x)) ≤ (L.length - 1) / 2) (h2 : (L.length - 1) / 2 < L.countP (fun a => decide (a < x)) + L.countP (fun a => decide (a = x))) : x = med L := by
  have hl : 0 < L.length := List.length_pos_iff.2 h0
  have hw : (L.length - 1) / 2 < (sortI L).length := by rw [sortI_len]; omega
  unfold med
  rw [if_neg h0]
  rw [count_le, ← (sortI_perm L).countP_eq] at h2
  rw [← (sortI_perm L).countP_eq] at h1
  have e : (sortI L).getD ((L.length - 1) / 2) default = (sortI L)[(L.length - 1) / 2] := by simp [List.getD_eq_getElem?_getD, hw]
  rw [e]
  rcases Int.lt_trichotomy x (sortI L)[(L.length - 1) / 2] with h | h | h
  · have := few (sortI_srt L) _ hw (fun a => decide (a ≤ x)) (fun a ha => by simp; omega)
    omega
  · exact h
  · have := many (sortI_srt L) _ hw (fun a => decide (a < x)) (fun a ha => by simp; omega)
    omega
theorem med_is {L : List Int} (h0 : L ≠ []) : ∃ i, ∃ hi : i < L.length, L.countP (fun a => decide (a < L[i])) ≤ (L.length - 1) / 2 ∧ (L.length - 1) / 2 < L.countP (fun a => decide (a < L[i])) + L.countP (fun a => decide (a = L[i])) := by
  have hl : 0 < L.length := List.length_pos_iff.2 h0
  have hw : (L.length - 1) / 2 < (sortI L).length := by rw [sortI_len]; omega
  have hm : (sortI L)[(L.length - 1) / 2] ∈ L := (sortI_perm L).mem_iff.1 (List.getElem_mem hw)
  obtain ⟨i, hi, e⟩ := List.getElem_of_mem hm
  refine ⟨i, hi, ?_⟩
  rw [e, count_le, ← (sortI_perm L).countP_eq, ← (sortI_perm L).countP_eq (p := fun a => decide (a ≤ _))]
  exact ⟨few (sortI_srt L) _ hw _ (fun a ha => by simp; omega), many (sortI_srt L) _ hw _ (fun a ha => by simpa using ha)⟩
theorem med_in {L : List Int} (h0 : L ≠ []) : med L ∈ L := by
  obtain ⟨i, hi, h1, h2⟩ := med_is h0
  rw [← med_rank h0 h1 h2]; exact List.getElem_mem hi
/-- One more; the eldest goes where there are too many. -/
def keepL (L : List Int) (n : Nat) (r : Int) : List Int := if n < L.length + 1 then (L ++ [r]).tail else L ++ [r]
structure Ring (W : List Int) (next has n : Nat) (L : List Int) : Prop where
  len : W.length = 9
  n0 : 0 < n
  n9 : n ≤ 9
  hn : has ≤ n
  nx : next < n
  is : (has < n ∧ next = has ∧ L = W.take has) ∨ (has = n ∧ L = (W.take n).drop next ++ W.take next)
theorem Ring.init (n : Nat) (n0 : 0 < n) (n9 : n ≤ 9) : Ring [0, 0, 0, 0, 0, 0, 0, 0, 0] 0 0 n [] := ⟨rfl, n0, n9, by omega, n0, .inl ⟨n0, rfl, rfl⟩⟩
theorem Ring.has_eq {W L : List Int} {next has n : Nat} (h : Ring W next has n L) : L.length = has := by
  obtain ⟨h1, h2, h3, h4, h5, h6⟩ := h
  rcases h6 with ⟨a, b, rfl⟩ | ⟨a, rfl⟩
  · rw [List.length_take]; omega
  · simp only [List.length_append, List.length_drop, List.length_take]; omega
theorem Ring.perm {W L : List Int} {next has n : Nat} (h : Ring W next has n L) : L.Perm (W.take has) := by
  obtain ⟨h1, h2, h3, h4, h5, h6⟩ := h
  rcases h6 with ⟨a, b, rfl⟩ | ⟨rfl, rfl⟩
  · exact .refl _
  · have e : W.take next = (W.take has).take next := by rw [List.take_take]; congr 1; omega
    rw [e]
    refine List.perm_append_comm.trans ?_
    rw [List.take_append_drop]
theorem Ring.step {W L : List Int} {next has n : Nat} (h : Ring W next has n L) (r : Int) : Ring (W.set next r) ((next + 1) % n) (min (has + 1) n) n (keepL L n r) := by
  have hl := h.has_eq
  obtain ⟨h1, h2, h3, h4, h5, h6⟩ := h
  refine ⟨by simp [h1], h2, h3, by omega, Nat.mod_lt _ h2, ?_⟩
  have tk : (W.set next r).take (next + 1) = W.take next ++ [r] := by
    rw [List.take_add_one]
    simp [List.take_set_of_le, show next < W.length by omega]
  rcases h6 with ⟨a, rfl, rfl⟩ | ⟨rfl, rfl⟩
  · have e : keepL (W.take next) n r = (W.set next r).take (next + 1) := by
      rw [tk]; unfold keepL; rw [hl, if_neg (by omega)]
    rw [e]
    by_cases hh : next + 1 < n
    · left; rw [Nat.mod_eq_of_lt hh, Nat.min_eq_left (by omega)]; exact ⟨hh, rfl, rfl⟩
    · right
      have : next + 1 = n := by omega
      subst this
      simp
  · right
    refine ⟨by omega, ?_⟩
    have e : keepL ((W.take has).drop next ++ W.take next) has r = (W.take has).drop (next + 1) ++ (W.take next ++ [r]) := by
      unfold keepL
      rw [hl, if_pos (by omega)]
      have hd : next < (W.take has).length := by rw [List.length_take]; omega
      rw [List.drop_eq_getElem_cons hd]
      simp
    rw [e, ← tk]
    have d1 : ((W.set next r).take has).drop (next + 1) = (W.take has).drop (next + 1) := by
      rw [List.take_set, List.drop_set_of_lt (by omega)]
    by_cases hh : next + 1 < has
    · rw [Nat.mod_eq_of_lt hh, d1]
    · have : next + 1 = has := by omega
      subst this
      rw [Nat.mod_self]
      simp
end Go.Proofs.Ythdglblbdobmoaa
