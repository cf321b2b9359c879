/- If streams pass the test of demand nothing is late. -/
import Derived.Test.YtmifapnmlhchlaaE30
set_option linter.all false
namespace Go.Proofs.Ytmifapnmlhchlaa
open Go Go.Proofs.Ytmifapnmlhchlaa.Ab
open Go.Proofs (Try.prog)
theorem jobT_right {C : List Stm} {T : List Tg} (hT : CameT C T) (hC : ∀ s ∈ C, rightS s = 0) : ∀ a ∈ T, rightJ (jobT C a) = true := by
  intro a ha
  obtain ⟨h1, h2, h3⟩ := hT.1 a ha
  have hr := hC _ (getD_mem C a.1 h1)
  have hc := costS_in (C.getD a.1 default)
  have hp := costS_pos hr
  have h0 := rightS_zero.1 hr
  rw [rightJ_iff]
  unfold jobT
  simp only
  split <;> omega
theorem tags_in {C : List Stm} {T : List Tg} {w : Wt} (h : w ∈ idxJ (T.map (jobT C))) : ∃ a ∈ T, w.1 = jobT C a := by
  have := idxJ_mem h
  obtain ⟨a, ha, e⟩ := List.mem_map.1 this
  exact ⟨a, ha, e.symm⟩
/-- A sum over numbered jobs is one over the jobs. -/
theorem sumC_idx (J : List Jb) (p : Jb → Bool) : sumC ((idxJ J).filter fun w => p w.1) = ((J.filter p).map fun j => j.2.2.2).sum := by
  unfold sumC idxJ
  rw [List.filter_map, List.map_map]
  have : ∀ (J : List Jb) (k : Nat), (((J.zipIdx k).filter ((fun w : Wt => p w.1) ∘ fun q : Jb × Nat => (q.1, (q.2 : Int)))).map ((fun u : Wt => u.1.2.2.2) ∘ fun q : Jb × Nat => (q.1, (q.2 : Int)))).sum = ((J.filter p).map fun j => j.2.2.2).sum := by
    intro J
    induction J with
    | nil => intro k; rfl
    | cons j t ih =>
      intro k
      rw [List.zipIdx_cons]
      cases hp : p j with
      | true =>
        rw [List.filter_cons_of_pos (by simpa using hp), List.filter_cons_of_pos hp, List.map_cons, List.map_cons, List.sum_cons, List.sum_cons, ih]; rfl
      | false =>
        rw [List.filter_cons_of_neg (by simpa using hp), List.filter_cons_of_neg (by rw [hp]; simp), ih]
  exact this J 0
theorem meets {C : List Stm} {T : List Tg} (hT : CameT C T) (hlen : T.length ≤ 60) {n : Int} (hn2 : n ≤ 100) (hr : rightC C n) (hp : ∀ s, 1 ≤ s → s ≤ 9000 → ¬ Fails C s n) {S : List (Wt × Int)} (hS : Sends n (idxJ (T.map (jobT C))) 0 S) : ∀ x ∈ S, lateX x = false := by
  intro x hx
  obtain ⟨hl64, hn1, hC, -, hdl⟩ := hr
  have hright := jobT_right hT hC
  have hrJ : ∀ u ∈ idxJ (T.map (jobT C)), rightJ u.1 = true := fun u hu => by
    obtain ⟨a, ha, e⟩ := tags_in hu
    rw [e]; exact hright a ha
  have hxm : x.1 ∈ idxJ (T.map (jobT C)) := hS.perm.mem_iff.1 (List.mem_map_of_mem hx)
  obtain ⟨a, ha, hxa⟩ := tags_in hxm
  obtain ⟨h1, h2, h3⟩ := hT.1 a ha
  obtain ⟨s, hs⟩ : ∃ s, C.getD a.1 default = s := ⟨_, rfl⟩
  have hsm : s ∈ C := by rw [← hs]; exact getD_mem C a.1 h1
  have hsr := hC s hsm
  have hs0 := rightS_zero.1 hsr
  have hcs := costS_in s
  have hcp := costS_pos hsr
  rw [hs] at h3
  unfold lateX
  rw [decide_eq_false_iff_not]
  by_cases hcl : s.2.2.1 = 1
  · -- a job with a deadline
    have hD : x.1.1.2.2.1 = a.2 + s.2.2.2.2.1 := by rw [hxa]; unfold jobT; rw [hs, if_pos hcl]
    have hk : kT x.1 = a.2 := by unfold kT; rw [hxa]; rfl
    have hcost : x.1.1.2.2.2 = costS s := by rw [hxa]; unfold jobT; rw [hs]
    obtain ⟨D, hDd⟩ : ∃ D, D = a.2 + s.2.2.2.2.1 := ⟨_, rfl⟩
    rw [← hDd] at hD h3
    have hAc : ∀ u ∈ idxJ (T.map (jobT C)), 0 ≤ u.1.2.2.2 ∧ u.1.2.2.2 ≤ blkF C := fun u hu => by
      obtain ⟨b, hb, e⟩ := tags_in hu
      have hb1 := (hT.1 b hb).1
      have e2 : u.1.2.2.2 = costS (C.getD b.1 default) := by rw [e]; rfl
      rw [e2]
      refine ⟨(costS_in _).1, ?_⟩
      exact blk_le C _ (getD_mem C b.1 hb1)
    have hq : slotT n x.1 ≤ D.tdiv n := by unfold slotT; rw [hD]; exact Int.le_refl _
    obtain ⟨t1, X1, ht1, hxX, ⟨Y, hY⟩, hX, hend⟩ := hS.since (q := D.tdiv n) hAc (Int.le_refl _) (X := []) (t0 := 0) ⟨Int.le_refl _, ⟨[], by simp⟩, by simp, fun u hu _ => ((rightJ_iff _).1 (hrJ u hu)).2.1.1, by simp only [sumC, List.map_nil, List.sum_nil]; have := (blk_in C).1; omega⟩ x hx hq
    -- what is sent since then
    obtain ⟨p, hpd⟩ : ∃ p : Jb → Bool, p = fun j => decide (j.2.2.1.tdiv n ≤ D.tdiv n) && decide (t1 ≤ j.2.1) := ⟨_, rfl⟩
    have hs1 : sumC X1 ≤ ((((T.map (jobT C)).filter p)).map fun j => j.2.2.2).sum := by
      rw [← sumC_idx]
      refine sum_le_perm (fun w => p w.1) hY (fun u hu => ?_) fun u hu => (hAc u hu).1
      have := hX u hu
      rw [hpd]
      simp only [Bool.and_eq_true, decide_eq_true_eq]
      exact this
    obtain ⟨U, hU⟩ : ∃ U, U = T.filter fun b => p (jobT C b) := ⟨_, rfl⟩
    have hs2 : ((((T.map (jobT C)).filter p)).map fun j => j.2.2.2).sum = (U.map fun b => costS (C.getD b.1 default)).sum := by
      rw [List.filter_map, List.map_map, hU]; rfl
    have hUu : ∀ b ∈ U, (C.getD b.1 default).2.2.1 = 1 ∧ t1 ≤ b.2 ∧ b.2 + (C.getD b.1 default).2.2.2.2.1 ≤ D + n - 1 := by
      intro b hb
      rw [hU] at hb
      obtain ⟨hbT, hbp⟩ := List.mem_filter.1 hb
      rw [hpd] at hbp
      simp only [Bool.and_eq_true, decide_eq_true_eq] at hbp
      obtain ⟨hb1, hb2, hb3⟩ := hT.1 b hbT
      have hbr := rightS_zero.1 (hC _ (getD_mem C b.1 hb1))
      have hbj := (rightJ_iff _).1 (hright b hbT)
      have hlt : (jobT C b).2.2.1 ≤ D + n - 1 := by
        have e1 : (jobT C b).2.2.1.tdiv n = (jobT C b).2.2.1 / n := Int.tdiv_eq_ediv_of_nonneg (by omega)
        have e2 : D.tdiv n = D / n := Int.tdiv_eq_ediv_of_nonneg (by omega)
        have h5 := hbp.1
        rw [e1, e2] at h5
        have h6 : (jobT C b).2.2.1 < ((jobT C b).2.2.1 / n + 1) * n := Int.lt_ediv_add_one_mul_self _ (by omega)
        have h7 : D / n * n ≤ D := Int.ediv_mul_le _ (by omega)
        have h8 : ((jobT C b).2.2.1 / n + 1) * n ≤ (D / n + 1) * n := Int.mul_le_mul_of_nonneg_right (by omega) (by omega)
        rw [Int.add_mul (D / n), Int.one_mul] at h8
        omega
      have hdd : (jobT C b).2.2.1 = if (C.getD b.1 default).2.2.1 = 1 then b.2 + (C.getD b.1 default).2.2.2.2.1 else 2251799813685248 := rfl
      rw [hdd] at hlt
      split at hlt
      · rename_i hc1
        exact ⟨hc1, hbp.2, hlt⟩
      · omega
    have hs3 := dem_sum hT hC U (by rw [hU]; exact List.filter_sublist) hUu
    have htx := (hX x.1 hxX).2
    rw [hk] at htx
    have hsp1 : n ≤ D - t1 := by have := hdl s hsm hcl; omega
    have hpos : 0 < sumC X1 := by
      have hm : ∀ Z : List Wt, (∀ u ∈ Z, 0 ≤ u.1.2.2.2) → x.1 ∈ Z → x.1.1.2.2.2 ≤ sumC Z := by
        intro Z
        induction Z with
        | nil => intro _ h; cases h
        | cons z t ih =>
          intro hz hm
          have hnn : ∀ Z : List Wt, (∀ u ∈ Z, 0 ≤ u.1.2.2.2) → 0 ≤ sumC Z := by
            intro Z
            induction Z with
            | nil => intro _; simp [sumC]
            | cons z t ih =>
              intro hz
              have a := hz z (by simp)
              have b := ih fun u hu => hz u (List.mem_cons_of_mem _ hu)
              simp only [sumC, List.map_cons, List.sum_cons] at b ⊢
              omega
          have e : sumC (z :: t) = z.1.2.2.2 + sumC t := by simp [sumC]
          rcases List.mem_cons.1 hm with h | h
          · rw [e, h]
            have := hnn t fun u hu => hz u (List.mem_cons_of_mem _ hu)
            omega
          · have a := hz z (by simp)
            have b := ih (fun u hu => hz u (List.mem_cons_of_mem _ hu)) h
            omega
      have := hm X1 (fun u hu => (hAc u (hY.mem_iff.1 (List.mem_append_left _ hu))).1) hxX
      omega
    have hf := hp (D - t1) (by omega) (by omega)
    have hd0 : 0 < demF C (D - t1) n := by omega
    have hd1 : blkF C + demF C (D - t1) n ≤ D - t1 := by
      by_cases h : D - t1 < blkF C + demF C (D - t1) n
      · exact absurd ⟨hd0, h⟩ hf
      · omega
    have he : endOf x = x.2 + x.1.1.2.2.2 := rfl
    rw [hD]
    omega
  · -- one without
    have hD : x.1.1.2.2.1 = 2251799813685248 := by rw [hxa]; unfold jobT; rw [hs, if_neg hcl]
    have hcost : x.1.1.2.2.2 = costS s := by rw [hxa]; unfold jobT; rw [hs]
    have hb := hS.bound 1125899906842624 hrJ (Int.le_refl _) (by omega) (Int.le_refl _) x hx
    have hl : S.length = T.length := by
      have := hS.perm.length_eq
      rw [List.length_map, idxJ_len, List.length_map] at this
      exact this
    rw [hD, hcost]
    omega
end Go.Proofs.Ytmifapnmlhchlaa
