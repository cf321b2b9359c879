/- The counts' laws: program and reference answer alike; what must be whatever is asked. -/
import Derived.Test.YtcdhihoghkkahaaCt1
set_option linter.all false
namespace Go.Proofs.Ytcdhihoghkkahaa
open Go Go.Proofs.Ytcdhihoghkkahaa.Ab
open Go.Proofs (Try.prog)

theorem wrap_small {x : Int} (h : -9223372036854775808 ≤ x) (h' : x < 9223372036854775808) : IntKind.i64.wrap x = x := by
  unfold IntKind.wrap; simp [IntKind.signed, IntKind.bits]; omega
/-- Counts that can be. -/
def Ok (c : C3) : Prop := 0 ≤ c.1 ∧ c.1 ≤ 256 ∧ 0 ≤ c.2.1 ∧ c.2.1 ≤ 255 ∧ c.2.2 = (c.1 == 256)
theorem imx_ok {x : Int} : imx x 0 = x ↔ 0 ≤ x := by unfold imx; split <;> omega
theorem right_iff (c : C3) : rightF c = true ↔ Ok c := by
  obtain ⟨t, r, f⟩ := c
  simp only [rightF, Ok, Bool.and_eq_true, beq_iff_eq]
  have a : imn (imx t 0) 256 = t ↔ 0 ≤ t ∧ t ≤ 256 := by unfold imn imx; repeat' split
                                                         all_goals omega
  have b : imn (imx r 0) 255 = r ↔ 0 ≤ r ∧ r ≤ 255 := by unfold imn imx; repeat' split
                                                         all_goals omega
  constructor
  · rintro ⟨h1, h2, h3⟩; rw [h1] at h3; exact ⟨(a.1 h1).1, (a.1 h1).2, (b.1 h2).1, (b.1 h2).2, h3.symm⟩
  · rintro ⟨h1, h2, h3, h4, h5⟩; have := a.2 ⟨h1, h2⟩; rw [this]; exact ⟨rfl, b.2 ⟨h3, h4⟩, h5.symm⟩
theorem rright_iff (c : C3) : rrightF c = true ↔ Ok c := by
  obtain ⟨t, r, f⟩ := c
  simp only [rrightF, Ok, Bool.and_eq_true, beq_iff_eq, decide_eq_true_eq]
theorem right_eq (c : C3) : rrightF c = rightF c := by
  have h1 := right_iff c; have h2 := rright_iff c
  cases h : rightF c <;> cases h' : rrightF c <;> simp_all
theorem sure_eq (c : C3) : rsureF c = sureF c := by unfold rsureF sureF; rw [right_eq]
theorem sure_ok (c : C3) : Ok (sureF c) := by
  unfold sureF; split
  · rename_i h; exact (right_iff c).1 h
  · exact ⟨by decide, by decide, by decide, by decide, by decide⟩
theorem mode_eq (c : C3) : rmodeF c = modeF c := by unfold rmodeF modeF; rw [sure_eq]
theorem txFail_eq (c : C3) : rtxFailF c = txFailF c := by
  unfold rtxFailF txFailF; rw [sure_eq]
  have h := sure_ok c
  generalize sureF c = d at h
  obtain ⟨t, r, f⟩ := d
  obtain ⟨h1, h2, h3, h4, h5⟩ := h
  simp only at h1 h2 h3 h4 h5 ⊢
  rw [wrap_small (by omega) (by omega)]
  unfold imn
  split
  · rw [if_neg (by omega)]
    have a : (t == 256) = false := by simp; omega
    have b : (t + 8 == 256) = false := by simp; omega
    rw [h5, a, b]
  · by_cases h : 256 < t + 8
    · rw [if_pos h]; rfl
    · rw [if_neg h, show t + 8 = 256 by omega]; rfl
theorem rxFail_eq (c : C3) (b : Int) : rrxFailF c b = rxFailF c b := by
  unfold rrxFailF rxFailF; rw [sure_eq]
  have h := sure_ok c
  generalize sureF c = d at h
  obtain ⟨t, r, f⟩ := d
  obtain ⟨h1, h2, h3, h4, h5⟩ := h
  simp only at h1 h2 h3 h4 h5 ⊢
  rw [wrap_small (x := 255 - r) (by omega) (by omega)]
  have n : imn (imx b 0) (255 - r) = (if b < 1 then 0 else if 255 - r < b then 255 - r else b) := by
    unfold imn imx; repeat' split
    all_goals omega
  rw [n]
  repeat' split
  · rw [wrap_small (by omega) (by omega)]; simp
  · rw [wrap_small (by omega) (by omega), show r + (255 - r) = 255 by omega]
  · rfl
theorem txGood_eq (c : C3) : rtxGoodF c = txGoodF c := by
  unfold rtxGoodF txGoodF; rw [sure_eq]
  have h := sure_ok c
  generalize sureF c = d at h
  obtain ⟨t, r, f⟩ := d
  obtain ⟨h1, h2, h3, h4, h5⟩ := h
  simp only at h1 h2 h3 h4 h5 ⊢
  rw [wrap_small (by omega) (by omega)]
  unfold imx
  repeat' split
  all_goals first | rfl | omega | (simp; omega) | (exfalso; omega)
theorem rxGood_eq (c : C3) : rrxGoodF c = rxGoodF c := by
  unfold rrxGoodF rxGoodF; rw [sure_eq]
  have h := sure_ok c
  generalize sureF c = d at h
  obtain ⟨t, r, f⟩ := d
  obtain ⟨h1, h2, h3, h4, h5⟩ := h
  simp only at h1 h2 h3 h4 h5 ⊢
  rw [wrap_small (by omega) (by omega)]
  unfold imx
  repeat' split
  all_goals first | rfl | omega | (simp; omega) | (exfalso; omega)
set_option maxRecDepth 100000
theorem live_spec (G : Nat → AVal) : Ans G 10 [] (.bool true) := by
  intro m
  refine callWP_body Try.func10 rfl (N := 45) rfl (rs := [.tmp 0]) rfl en_10 (of_decide_eq_true rfl) ?_
  iterate 12 (all_goals try first | contradiction | (with_reducible refine Al.intro ?_; intro b hb; (try simp only [hupd_none'] at hb); (repeat rcases hb with ⟨⟨hx, hy⟩, hb⟩)) | with_reducible refine condA_bool _ _ _ (fun h => ?_) (fun h => ?_) | with_reducible refine gV_true _ _ _ (fun h => ?_) (fun h => ?_) | with_reducible refine gV_false _ _ _ (fun h => ?_) (fun h => ?_) | ((fail_if_success with_reducible refine isCall ?_); (fail_if_success with_reducible refine isAWP ?_); (fail_if_success with_reducible refine isPart ?_); simp -implicitDefEqProofs only [go_sem, Nat.reduceEqDiff, Nat.reduceAdd, Nat.reduceLT, Nat.reduceMul, Nat.reduceSub, Nat.reduceLeDiff, ↓reduceIte, reduceCtorEq, ↓String.reduceEq, String.reduceNe,  enc, *]))
  refine CallWP.to (txFail_spec G (124, 0, false) _) ?_
  rw [show txFailF (124, 0, false) = (132, 0, false) by decide]
  iterate 12 (all_goals try first | contradiction | (with_reducible refine Al.intro ?_; intro b hb; (try simp only [hupd_none'] at hb); (repeat rcases hb with ⟨⟨hx, hy⟩, hb⟩)) | with_reducible refine condA_bool _ _ _ (fun h => ?_) (fun h => ?_) | with_reducible refine gV_true _ _ _ (fun h => ?_) (fun h => ?_) | with_reducible refine gV_false _ _ _ (fun h => ?_) (fun h => ?_) | ((fail_if_success with_reducible refine isCall ?_); (fail_if_success with_reducible refine isAWP ?_); (fail_if_success with_reducible refine isPart ?_); simp -implicitDefEqProofs only [go_sem, Nat.reduceEqDiff, Nat.reduceAdd, Nat.reduceLT, Nat.reduceMul, Nat.reduceSub, Nat.reduceLeDiff, ↓reduceIte, reduceCtorEq, ↓String.reduceEq, String.reduceNe,  enc, *]))
  refine CallWP.to (mode_spec G (132, 0, false) _) ?_
  rw [show modeF (132, 0, false) = 1 by decide]
  iterate 12 (all_goals try first | contradiction | (with_reducible refine Al.intro ?_; intro b hb; (try simp only [hupd_none'] at hb); (repeat rcases hb with ⟨⟨hx, hy⟩, hb⟩)) | with_reducible refine condA_bool _ _ _ (fun h => ?_) (fun h => ?_) | with_reducible refine gV_true _ _ _ (fun h => ?_) (fun h => ?_) | with_reducible refine gV_false _ _ _ (fun h => ?_) (fun h => ?_) | ((fail_if_success with_reducible refine isCall ?_); (fail_if_success with_reducible refine isAWP ?_); (fail_if_success with_reducible refine isPart ?_); simp -implicitDefEqProofs only [go_sem, Nat.reduceEqDiff, Nat.reduceAdd, Nat.reduceLT, Nat.reduceMul, Nat.reduceSub, Nat.reduceLeDiff, ↓reduceIte, reduceCtorEq, ↓String.reduceEq, String.reduceNe,  enc, *]))
  refine CallWP.to (txFail_spec G (250, 0, false) _) ?_
  rw [show txFailF (250, 0, false) = (256, 0, true) by decide]
  iterate 12 (all_goals try first | contradiction | (with_reducible refine Al.intro ?_; intro b hb; (try simp only [hupd_none'] at hb); (repeat rcases hb with ⟨⟨hx, hy⟩, hb⟩)) | with_reducible refine condA_bool _ _ _ (fun h => ?_) (fun h => ?_) | with_reducible refine gV_true _ _ _ (fun h => ?_) (fun h => ?_) | with_reducible refine gV_false _ _ _ (fun h => ?_) (fun h => ?_) | ((fail_if_success with_reducible refine isCall ?_); (fail_if_success with_reducible refine isAWP ?_); (fail_if_success with_reducible refine isPart ?_); simp -implicitDefEqProofs only [go_sem, Nat.reduceEqDiff, Nat.reduceAdd, Nat.reduceLT, Nat.reduceMul, Nat.reduceSub, Nat.reduceLeDiff, ↓reduceIte, reduceCtorEq, ↓String.reduceEq, String.reduceNe,  enc, *]))
  refine CallWP.to (mode_spec G (256, 0, true) _) ?_
  rw [show modeF (256, 0, true) = 2 by decide]
  iterate 12 (all_goals try first | contradiction | (with_reducible refine Al.intro ?_; intro b hb; (try simp only [hupd_none'] at hb); (repeat rcases hb with ⟨⟨hx, hy⟩, hb⟩)) | with_reducible refine condA_bool _ _ _ (fun h => ?_) (fun h => ?_) | with_reducible refine gV_true _ _ _ (fun h => ?_) (fun h => ?_) | with_reducible refine gV_false _ _ _ (fun h => ?_) (fun h => ?_) | ((fail_if_success with_reducible refine isCall ?_); (fail_if_success with_reducible refine isAWP ?_); (fail_if_success with_reducible refine isPart ?_); simp -implicitDefEqProofs only [go_sem, Nat.reduceEqDiff, Nat.reduceAdd, Nat.reduceLT, Nat.reduceMul, Nat.reduceSub, Nat.reduceLeDiff, ↓reduceIte, reduceCtorEq, ↓String.reduceEq, String.reduceNe,  enc, *]))
  refine CallWP.to (rxGood_spec G (0, 200, false) _) ?_
  rw [show rxGoodF (0, 200, false) = (0, 120, false) by decide]
  iterate 12 (all_goals try first | contradiction | (with_reducible refine Al.intro ?_; intro b hb; (try simp only [hupd_none'] at hb); (repeat rcases hb with ⟨⟨hx, hy⟩, hb⟩)) | with_reducible refine condA_bool _ _ _ (fun h => ?_) (fun h => ?_) | with_reducible refine gV_true _ _ _ (fun h => ?_) (fun h => ?_) | with_reducible refine gV_false _ _ _ (fun h => ?_) (fun h => ?_) | ((fail_if_success with_reducible refine isCall ?_); (fail_if_success with_reducible refine isAWP ?_); (fail_if_success with_reducible refine isPart ?_); simp -implicitDefEqProofs only [go_sem, Nat.reduceEqDiff, Nat.reduceAdd, Nat.reduceLT, Nat.reduceMul, Nat.reduceSub, Nat.reduceLeDiff, ↓reduceIte, reduceCtorEq, ↓String.reduceEq, String.reduceNe,  enc, *]))
  refine CallWP.to (rxFail_spec G (0, 1, false) 8 _) ?_
  rw [show rxFailF (0, 1, false) 8 = (0, 9, false) by decide]
  iterate 12 (all_goals try first | contradiction | (with_reducible refine Al.intro ?_; intro b hb; (try simp only [hupd_none'] at hb); (repeat rcases hb with ⟨⟨hx, hy⟩, hb⟩)) | with_reducible refine condA_bool _ _ _ (fun h => ?_) (fun h => ?_) | with_reducible refine gV_true _ _ _ (fun h => ?_) (fun h => ?_) | with_reducible refine gV_false _ _ _ (fun h => ?_) (fun h => ?_) | ((fail_if_success with_reducible refine isCall ?_); (fail_if_success with_reducible refine isAWP ?_); (fail_if_success with_reducible refine isPart ?_); simp -implicitDefEqProofs only [go_sem, Nat.reduceEqDiff, Nat.reduceAdd, Nat.reduceLT, Nat.reduceMul, Nat.reduceSub, Nat.reduceLeDiff, ↓reduceIte, reduceCtorEq, ↓String.reduceEq, String.reduceNe,  enc, *]))
  refine CallWP.to (txGood_spec G (3, 0, false) _) ?_
  rw [show txGoodF (3, 0, false) = (2, 0, false) by decide]
  iterate 12 (all_goals try first | contradiction | (with_reducible refine Al.intro ?_; intro b hb; (try simp only [hupd_none'] at hb); (repeat rcases hb with ⟨⟨hx, hy⟩, hb⟩)) | with_reducible refine condA_bool _ _ _ (fun h => ?_) (fun h => ?_) | with_reducible refine gV_true _ _ _ (fun h => ?_) (fun h => ?_) | with_reducible refine gV_false _ _ _ (fun h => ?_) (fun h => ?_) | ((fail_if_success with_reducible refine isCall ?_); (fail_if_success with_reducible refine isAWP ?_); (fail_if_success with_reducible refine isPart ?_); simp -implicitDefEqProofs only [go_sem, Nat.reduceEqDiff, Nat.reduceAdd, Nat.reduceLT, Nat.reduceMul, Nat.reduceSub, Nat.reduceLeDiff, ↓reduceIte, reduceCtorEq, ↓String.reduceEq, String.reduceNe,  enc, *]))
  refine CallWP.to (right_spec G (132, 0, false) _) ?_
  rw [show rightF (132, 0, false) = true by decide]
  iterate 12 (all_goals try first | contradiction | (with_reducible refine Al.intro ?_; intro b hb; (try simp only [hupd_none'] at hb); (repeat rcases hb with ⟨⟨hx, hy⟩, hb⟩)) | with_reducible refine condA_bool _ _ _ (fun h => ?_) (fun h => ?_) | with_reducible refine gV_true _ _ _ (fun h => ?_) (fun h => ?_) | with_reducible refine gV_false _ _ _ (fun h => ?_) (fun h => ?_) | ((fail_if_success with_reducible refine isCall ?_); (fail_if_success with_reducible refine isAWP ?_); (fail_if_success with_reducible refine isPart ?_); simp -implicitDefEqProofs only [go_sem, Nat.reduceEqDiff, Nat.reduceAdd, Nat.reduceLT, Nat.reduceMul, Nat.reduceSub, Nat.reduceLeDiff, ↓reduceIte, reduceCtorEq, ↓String.reduceEq, String.reduceNe,  enc, *]))
  refine CallWP.to (right_spec G (-1, 0, false) _) ?_
  rw [show rightF (-1, 0, false) = false by decide]
  iterate 12 (all_goals try first | contradiction | (with_reducible refine Al.intro ?_; intro b hb; (try simp only [hupd_none'] at hb); (repeat rcases hb with ⟨⟨hx, hy⟩, hb⟩)) | with_reducible refine condA_bool _ _ _ (fun h => ?_) (fun h => ?_) | with_reducible refine gV_true _ _ _ (fun h => ?_) (fun h => ?_) | with_reducible refine gV_false _ _ _ (fun h => ?_) (fun h => ?_) | ((fail_if_success with_reducible refine isCall ?_); (fail_if_success with_reducible refine isAWP ?_); (fail_if_success with_reducible refine isPart ?_); simp -implicitDefEqProofs only [go_sem, Nat.reduceEqDiff, Nat.reduceAdd, Nat.reduceLT, Nat.reduceMul, Nat.reduceSub, Nat.reduceLeDiff, ↓reduceIte, reduceCtorEq, ↓String.reduceEq, String.reduceNe,  enc, *]))
  exact ⟨m, (by (repeat refine Sub.fresh ?_ (by assumption)); exact Sub.refl m), rfl, rfl⟩
theorem countIs_spec (G : Nat → AVal) (c : C3) (y : Int) : Ans G 3 [enc c, .int .i64 y] (.bool true) := by
  intro m
  refine callWP_body Try.func3 rfl (N := 50) rfl (rs := [.tmp 4]) rfl en_3 (of_decide_eq_true rfl) ?_
  iterate 12 (all_goals try first | contradiction | (with_reducible refine Al.intro ?_; intro b hb; (try simp only [hupd_none'] at hb); (repeat rcases hb with ⟨⟨hx, hy⟩, hb⟩)) | with_reducible refine condA_bool _ _ _ (fun h => ?_) (fun h => ?_) | with_reducible refine gV_true _ _ _ (fun h => ?_) (fun h => ?_) | with_reducible refine gV_false _ _ _ (fun h => ?_) (fun h => ?_) | ((fail_if_success with_reducible refine isCall ?_); (fail_if_success with_reducible refine isAWP ?_); (fail_if_success with_reducible refine isPart ?_); simp -implicitDefEqProofs only [go_sem, Nat.reduceEqDiff, Nat.reduceAdd, Nat.reduceLT, Nat.reduceMul, Nat.reduceSub, Nat.reduceLeDiff, ↓reduceIte, reduceCtorEq, ↓String.reduceEq, String.reduceNe,  enc, *]))
  refine awp_drawnE [(0, .k), (1, .q), (2, .q), (3, .k), (4, .q), (5, .k), (6, .q), (7, .q), (8, .q), (9, .q), (10, .k), (11, .q), (12, .k), (13, .q), (14, .q), (15, .q), (16, .q), (17, .k), (18, .q), (19, .k), (20, .q), (21, .q), (22, .q), (23, .q), (24, .q), (25, .k), (26, .q), (27, .q), (28, .k), (29, .q), (30, .q), (31, .q), (32, .q), (33, .k), (34, .q), (35, .k), (36, .q), (37, .q), (38, .q), (39, .q), (40, .k), (41, .q), (42, .k), (43, .q), (44, .q), (45, .q)] (fun i => match i with | 0 => .bool true | 3 => .bool (rightF c) | 5 => .bool (rightF c) | 10 => .int .i64 (modeF c) | 12 => .int .i64 (modeF c) | 17 => enc (txFailF c) | 19 => enc (txFailF c) | 25 => enc (rxFailF c y) | 28 => enc (rxFailF c y) | 33 => enc (txGoodF c) | 35 => enc (txGoodF c) | 40 => enc (rxGoodF c) | 42 => enc (rxGoodF c) | _ => .undef) (fun _ => True) mixed (by decide +kernel) ?_
  simp -implicitDefEqProofs only [go_sem, Nat.reduceEqDiff, Nat.reduceAdd, Nat.reduceLT, Nat.reduceMul, Nat.reduceSub, Nat.reduceLeDiff, ↓reduceIte, reduceCtorEq, ↓String.reduceEq, String.reduceNe,  enc, *]
  refine ⟨fun m' _ => live_spec G m', fun m' _ => right_spec G c m', fun m' _ => ?_, fun m' _ => mode_spec G c m', fun m' _ => ?_, fun m' _ => txFail_spec G c m', fun m' _ => ?_, fun m' _ => rxFail_spec G c y m', fun m' _ => ?_,
    fun m' _ => txGood_spec G c m', fun m' _ => ?_, fun m' _ => rxGood_spec G c m', fun m' _ => ?_, ⟨m, (by (repeat refine Sub.fresh ?_ (by assumption)); exact Sub.refl m), rfl, rfl⟩⟩
  · have := rright_spec G c m'; rw [right_eq] at this; exact this
  · have := rmode_spec G c m'; rw [mode_eq] at this; exact this
  · have := rtxFail_spec G c m'; rw [txFail_eq] at this; exact this
  · have := rrxFail_spec G c y m'; rw [rxFail_eq] at this; exact this
  · have := rtxGood_spec G c m'; rw [txGood_eq] at this; exact this
  · have := rrxGood_spec G c m'; rw [rxGood_eq] at this; exact this
end Go.Proofs.Ytcdhihoghkkahaa
