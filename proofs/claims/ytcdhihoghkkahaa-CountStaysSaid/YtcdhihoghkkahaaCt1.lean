/- The counts' functions: what each answers. -/
import Derived.Test.YtcdhihoghkkahaaFa
set_option linter.all false
namespace Go.Proofs.Ytcdhihoghkkahaa
open Go Go.Proofs.Ytcdhihoghkkahaa.Ab
open Go.Proofs (Try.prog)

abbrev C3 := Int × Int × Bool
def enc (c : C3) : AVal := .agg [.int .i64 c.1, .int .i64 c.2.1, .bool c.2.2]
/-- What a function answers that leaves the memory as it was. -/
def Ans (G : Nat → AVal) (f : FuncId) (args : List AVal) (v : AVal) : Prop := ∀ m, CallWP Try.prog G f args m fun v' m' => v' = v ∧ m' = m
set_option maxRecDepth 100000
def rightF (c : C3) : Bool := imn (imx c.1 0) 256 == c.1 && (imn (imx c.2.1 0) 255 == c.2.1 && (imn (imx c.1 0) 256 == 256) == c.2.2)
theorem right_spec (G : Nat → AVal) (c : C3) : Ans G 11 [enc c] (.bool (rightF c)) := by
  intro m
  refine callWP_body Try.func11 rfl (N := 22) rfl (rs := [.tmp 2]) rfl en_11 (of_decide_eq_true rfl) ?_
  simp -implicitDefEqProofs only [go_sem, Nat.reduceEqDiff, Nat.reduceAdd, Nat.reduceLT, Nat.reduceMul, Nat.reduceSub, Nat.reduceLeDiff, ↓reduceIte, reduceCtorEq, ↓String.reduceEq, String.reduceNe,  enc]
  refine Al.intro fun b1 h1 => ?_
  simp -implicitDefEqProofs only [go_sem, Nat.reduceEqDiff, Nat.reduceAdd, Nat.reduceLT, Nat.reduceMul, Nat.reduceSub, Nat.reduceLeDiff, ↓reduceIte, reduceCtorEq, ↓String.reduceEq, String.reduceNe,  h1]
  refine Al.intro fun b2 h2 => ?_
  simp only [hupd_none'] at h2
  simp -implicitDefEqProofs only [go_sem, Nat.reduceEqDiff, Nat.reduceAdd, Nat.reduceLT, Nat.reduceMul, Nat.reduceSub, Nat.reduceLeDiff, ↓reduceIte, reduceCtorEq, ↓String.reduceEq, String.reduceNe,  h1, h2]
  refine awp_drawnE [(0, .r), (1, .r), (2, .r), (3, .r), (4, .r), (5, .r), (6, .r), (7, .r), (8, .r), (9, .e), (10, .r), (11, .e)] (fun _ => .undef) (fun p => p = b1) mixed (by decide +kernel) ?_
  simp -implicitDefEqProofs only [go_sem, Nat.reduceEqDiff, Nat.reduceAdd, Nat.reduceLT, Nat.reduceMul, Nat.reduceSub, Nat.reduceLeDiff, ↓reduceIte, reduceCtorEq, ↓String.reduceEq, String.reduceNe,  h1, h2]
  exact ⟨m, ((Sub.refl m).fresh h1).fresh h2.2, rfl, rfl⟩
def sureF (c : C3) : C3 := if rightF c = true then c else (0, 0, false)
theorem sure_spec (G : Nat → AVal) (c : C3) : Ans G 45 [enc c] (enc (sureF c)) := by
  intro m
  refine callWP_body Try.func45 rfl (N := 8) rfl (rs := [.cell 2 23]) rfl en_45 (of_decide_eq_true rfl) ?_
  iterate 12 (all_goals try first | contradiction | (with_reducible refine Al.intro ?_; intro b hb; (try simp only [hupd_none'] at hb); (repeat rcases hb with ⟨⟨hx, hy⟩, hb⟩)) | with_reducible refine condA_bool _ _ _ (fun h => ?_) (fun h => ?_) | with_reducible refine gV_true _ _ _ (fun h => ?_) (fun h => ?_) | with_reducible refine gV_false _ _ _ (fun h => ?_) (fun h => ?_) | ((fail_if_success with_reducible refine isCall ?_); (fail_if_success with_reducible refine isAWP ?_); (fail_if_success with_reducible refine isPart ?_); simp -implicitDefEqProofs only [go_sem, Nat.reduceEqDiff, Nat.reduceAdd, Nat.reduceLT, Nat.reduceMul, Nat.reduceSub, Nat.reduceLeDiff, ↓reduceIte, reduceCtorEq, ↓String.reduceEq, String.reduceNe,  enc, *]))
  refine CallWP.to (right_spec G c _) ?_
  iterate 12 (all_goals try first | contradiction | (with_reducible refine Al.intro ?_; intro b hb; (try simp only [hupd_none'] at hb); (repeat rcases hb with ⟨⟨hx, hy⟩, hb⟩)) | with_reducible refine condA_bool _ _ _ (fun h => ?_) (fun h => ?_) | with_reducible refine gV_true _ _ _ (fun h => ?_) (fun h => ?_) | with_reducible refine gV_false _ _ _ (fun h => ?_) (fun h => ?_) | ((fail_if_success with_reducible refine isCall ?_); (fail_if_success with_reducible refine isAWP ?_); (fail_if_success with_reducible refine isPart ?_); simp -implicitDefEqProofs only [go_sem, Nat.reduceEqDiff, Nat.reduceAdd, Nat.reduceLT, Nat.reduceMul, Nat.reduceSub, Nat.reduceLeDiff, ↓reduceIte, reduceCtorEq, ↓String.reduceEq, String.reduceNe,  enc, *]))
  all_goals refine ⟨m, (by (repeat refine Sub.fresh ?_ (by assumption)); exact Sub.refl m), ?_, rfl⟩
  all_goals simp only [sureF, enc]
  all_goals (repeat' split)
  all_goals first | rfl | (simp_all; done) | (simp_all; omega) | (exfalso; simp_all; omega)
def modeF (c : C3) : Int := let d := sureF c; if d.2.2 = true then 2 else if d.1 ≥ 128 then 1 else if d.2.1 ≥ 128 then 1 else 0
theorem mode_spec (G : Nat → AVal) (c : C3) : Ans G 13 [enc c] (.int .i64 (modeF c)) := by
  intro m
  refine callWP_body Try.func13 rfl (N := 16) rfl (rs := [.tmp 2]) rfl en_13 (of_decide_eq_true rfl) ?_
  iterate 12 (all_goals try first | contradiction | (with_reducible refine Al.intro ?_; intro b hb; (try simp only [hupd_none'] at hb); (repeat rcases hb with ⟨⟨hx, hy⟩, hb⟩)) | with_reducible refine condA_bool _ _ _ (fun h => ?_) (fun h => ?_) | with_reducible refine gV_true _ _ _ (fun h => ?_) (fun h => ?_) | with_reducible refine gV_false _ _ _ (fun h => ?_) (fun h => ?_) | ((fail_if_success with_reducible refine isCall ?_); (fail_if_success with_reducible refine isAWP ?_); (fail_if_success with_reducible refine isPart ?_); simp -implicitDefEqProofs only [go_sem, Nat.reduceEqDiff, Nat.reduceAdd, Nat.reduceLT, Nat.reduceMul, Nat.reduceSub, Nat.reduceLeDiff, ↓reduceIte, reduceCtorEq, ↓String.reduceEq, String.reduceNe,  enc, *]))
  refine CallWP.to (sure_spec G c _) ?_
  iterate 12 (all_goals try first | contradiction | (with_reducible refine Al.intro ?_; intro b hb; (try simp only [hupd_none'] at hb); (repeat rcases hb with ⟨⟨hx, hy⟩, hb⟩)) | with_reducible refine condA_bool _ _ _ (fun h => ?_) (fun h => ?_) | with_reducible refine gV_true _ _ _ (fun h => ?_) (fun h => ?_) | with_reducible refine gV_false _ _ _ (fun h => ?_) (fun h => ?_) | ((fail_if_success with_reducible refine isCall ?_); (fail_if_success with_reducible refine isAWP ?_); (fail_if_success with_reducible refine isPart ?_); simp -implicitDefEqProofs only [go_sem, Nat.reduceEqDiff, Nat.reduceAdd, Nat.reduceLT, Nat.reduceMul, Nat.reduceSub, Nat.reduceLeDiff, ↓reduceIte, reduceCtorEq, ↓String.reduceEq, String.reduceNe,  enc, *]))
  all_goals refine ⟨m, (by (repeat refine Sub.fresh ?_ (by assumption)); exact Sub.refl m), ?_, rfl⟩
  all_goals simp only [modeF, enc]
  all_goals (repeat' split)
  all_goals first | rfl | (simp_all; done) | (simp_all; omega) | (exfalso; simp_all; omega)
def txFailF (c : C3) : C3 := let d := sureF c; let t := imn (IntKind.i64.wrap (d.1 + 8)) 256; (t, d.2.1, t == 256)
theorem txFail_spec (G : Nat → AVal) (c : C3) : Ans G 15 [enc c] (enc (txFailF c)) := by
  intro m
  refine callWP_body Try.func15 rfl (N := 15) rfl (rs := [.cell 2 23]) rfl en_15 (of_decide_eq_true rfl) ?_
  iterate 12 (all_goals try first | contradiction | (with_reducible refine Al.intro ?_; intro b hb; (try simp only [hupd_none'] at hb); (repeat rcases hb with ⟨⟨hx, hy⟩, hb⟩)) | with_reducible refine condA_bool _ _ _ (fun h => ?_) (fun h => ?_) | with_reducible refine gV_true _ _ _ (fun h => ?_) (fun h => ?_) | with_reducible refine gV_false _ _ _ (fun h => ?_) (fun h => ?_) | ((fail_if_success with_reducible refine isCall ?_); (fail_if_success with_reducible refine isAWP ?_); (fail_if_success with_reducible refine isPart ?_); simp -implicitDefEqProofs only [go_sem, Nat.reduceEqDiff, Nat.reduceAdd, Nat.reduceLT, Nat.reduceMul, Nat.reduceSub, Nat.reduceLeDiff, ↓reduceIte, reduceCtorEq, ↓String.reduceEq, String.reduceNe,  enc, *]))
  refine CallWP.to (sure_spec G c _) ?_
  iterate 12 (all_goals try first | contradiction | (with_reducible refine Al.intro ?_; intro b hb; (try simp only [hupd_none'] at hb); (repeat rcases hb with ⟨⟨hx, hy⟩, hb⟩)) | with_reducible refine condA_bool _ _ _ (fun h => ?_) (fun h => ?_) | with_reducible refine gV_true _ _ _ (fun h => ?_) (fun h => ?_) | with_reducible refine gV_false _ _ _ (fun h => ?_) (fun h => ?_) | ((fail_if_success with_reducible refine isCall ?_); (fail_if_success with_reducible refine isAWP ?_); (fail_if_success with_reducible refine isPart ?_); simp -implicitDefEqProofs only [go_sem, Nat.reduceEqDiff, Nat.reduceAdd, Nat.reduceLT, Nat.reduceMul, Nat.reduceSub, Nat.reduceLeDiff, ↓reduceIte, reduceCtorEq, ↓String.reduceEq, String.reduceNe,  enc, *]))
  all_goals refine ⟨m, (by (repeat refine Sub.fresh ?_ (by assumption)); exact Sub.refl m), ?_, rfl⟩
  all_goals simp only [txFailF, enc]
  all_goals (repeat' split)
  all_goals first | rfl | (simp_all; done) | (simp_all; omega) | (exfalso; simp_all; omega)
def rxFailF (c : C3) (b : Int) : C3 := let d := sureF c; (d.1, IntKind.i64.wrap (d.2.1 + imn (imx b 0) (IntKind.i64.wrap (255 - d.2.1))), d.2.2)
theorem rxFail_spec (G : Nat → AVal) (c : C3) (b : Int) : Ans G 17 [enc c, .int .i64 b] (enc (rxFailF c b)) := by
  intro m
  refine callWP_body Try.func17 rfl (N := 18) rfl (rs := [.cell 4 23]) rfl en_17 (of_decide_eq_true rfl) ?_
  iterate 12 (all_goals try first | contradiction | (with_reducible refine Al.intro ?_; intro b hb; (try simp only [hupd_none'] at hb); (repeat rcases hb with ⟨⟨hx, hy⟩, hb⟩)) | with_reducible refine condA_bool _ _ _ (fun h => ?_) (fun h => ?_) | with_reducible refine gV_true _ _ _ (fun h => ?_) (fun h => ?_) | with_reducible refine gV_false _ _ _ (fun h => ?_) (fun h => ?_) | ((fail_if_success with_reducible refine isCall ?_); (fail_if_success with_reducible refine isAWP ?_); (fail_if_success with_reducible refine isPart ?_); simp -implicitDefEqProofs only [go_sem, Nat.reduceEqDiff, Nat.reduceAdd, Nat.reduceLT, Nat.reduceMul, Nat.reduceSub, Nat.reduceLeDiff, ↓reduceIte, reduceCtorEq, ↓String.reduceEq, String.reduceNe,  enc, *]))
  refine CallWP.to (sure_spec G c _) ?_
  iterate 12 (all_goals try first | contradiction | (with_reducible refine Al.intro ?_; intro b hb; (try simp only [hupd_none'] at hb); (repeat rcases hb with ⟨⟨hx, hy⟩, hb⟩)) | with_reducible refine condA_bool _ _ _ (fun h => ?_) (fun h => ?_) | with_reducible refine gV_true _ _ _ (fun h => ?_) (fun h => ?_) | with_reducible refine gV_false _ _ _ (fun h => ?_) (fun h => ?_) | ((fail_if_success with_reducible refine isCall ?_); (fail_if_success with_reducible refine isAWP ?_); (fail_if_success with_reducible refine isPart ?_); simp -implicitDefEqProofs only [go_sem, Nat.reduceEqDiff, Nat.reduceAdd, Nat.reduceLT, Nat.reduceMul, Nat.reduceSub, Nat.reduceLeDiff, ↓reduceIte, reduceCtorEq, ↓String.reduceEq, String.reduceNe,  enc, *]))
  all_goals refine ⟨m, (by (repeat refine Sub.fresh ?_ (by assumption)); exact Sub.refl m), ?_, rfl⟩
  all_goals simp only [rxFailF, enc]
  all_goals (repeat' split)
  all_goals first | rfl | (simp_all; done) | (simp_all; omega) | (exfalso; simp_all; omega)
def txGoodF (c : C3) : C3 := let d := sureF c; if d.2.2 = true then d else (imx (IntKind.i64.wrap (d.1 - 1)) 0, d.2.1, d.2.2)
theorem txGood_spec (G : Nat → AVal) (c : C3) : Ans G 19 [enc c] (enc (txGoodF c)) := by
  intro m
  refine callWP_body Try.func19 rfl (N := 14) rfl (rs := [.cell 2 23]) rfl en_19 (of_decide_eq_true rfl) ?_
  iterate 12 (all_goals try first | contradiction | (with_reducible refine Al.intro ?_; intro b hb; (try simp only [hupd_none'] at hb); (repeat rcases hb with ⟨⟨hx, hy⟩, hb⟩)) | with_reducible refine condA_bool _ _ _ (fun h => ?_) (fun h => ?_) | with_reducible refine gV_true _ _ _ (fun h => ?_) (fun h => ?_) | with_reducible refine gV_false _ _ _ (fun h => ?_) (fun h => ?_) | ((fail_if_success with_reducible refine isCall ?_); (fail_if_success with_reducible refine isAWP ?_); (fail_if_success with_reducible refine isPart ?_); simp -implicitDefEqProofs only [go_sem, Nat.reduceEqDiff, Nat.reduceAdd, Nat.reduceLT, Nat.reduceMul, Nat.reduceSub, Nat.reduceLeDiff, ↓reduceIte, reduceCtorEq, ↓String.reduceEq, String.reduceNe,  enc, *]))
  refine CallWP.to (sure_spec G c _) ?_
  iterate 12 (all_goals try first | contradiction | (with_reducible refine Al.intro ?_; intro b hb; (try simp only [hupd_none'] at hb); (repeat rcases hb with ⟨⟨hx, hy⟩, hb⟩)) | with_reducible refine condA_bool _ _ _ (fun h => ?_) (fun h => ?_) | with_reducible refine gV_true _ _ _ (fun h => ?_) (fun h => ?_) | with_reducible refine gV_false _ _ _ (fun h => ?_) (fun h => ?_) | ((fail_if_success with_reducible refine isCall ?_); (fail_if_success with_reducible refine isAWP ?_); (fail_if_success with_reducible refine isPart ?_); simp -implicitDefEqProofs only [go_sem, Nat.reduceEqDiff, Nat.reduceAdd, Nat.reduceLT, Nat.reduceMul, Nat.reduceSub, Nat.reduceLeDiff, ↓reduceIte, reduceCtorEq, ↓String.reduceEq, String.reduceNe,  enc, *]))
  all_goals refine ⟨m, (by (repeat refine Sub.fresh ?_ (by assumption)); exact Sub.refl m), ?_, rfl⟩
  all_goals simp only [txGoodF, enc]
  all_goals (repeat' split)
  all_goals first | rfl | (simp_all; done) | (simp_all; omega) | (exfalso; simp_all; omega)
def rxGoodF (c : C3) : C3 := let d := sureF c; if d.2.1 < 128 then (d.1, imx (IntKind.i64.wrap (d.2.1 - 1)) 0, d.2.2) else (d.1, 120, d.2.2)
theorem rxGood_spec (G : Nat → AVal) (c : C3) : Ans G 21 [enc c] (enc (rxGoodF c)) := by
  intro m
  refine callWP_body Try.func21 rfl (N := 16) rfl (rs := [.cell 2 23]) rfl en_21 (of_decide_eq_true rfl) ?_
  iterate 12 (all_goals try first | contradiction | (with_reducible refine Al.intro ?_; intro b hb; (try simp only [hupd_none'] at hb); (repeat rcases hb with ⟨⟨hx, hy⟩, hb⟩)) | with_reducible refine condA_bool _ _ _ (fun h => ?_) (fun h => ?_) | with_reducible refine gV_true _ _ _ (fun h => ?_) (fun h => ?_) | with_reducible refine gV_false _ _ _ (fun h => ?_) (fun h => ?_) | ((fail_if_success with_reducible refine isCall ?_); (fail_if_success with_reducible refine isAWP ?_); (fail_if_success with_reducible refine isPart ?_); simp -implicitDefEqProofs only [go_sem, Nat.reduceEqDiff, Nat.reduceAdd, Nat.reduceLT, Nat.reduceMul, Nat.reduceSub, Nat.reduceLeDiff, ↓reduceIte, reduceCtorEq, ↓String.reduceEq, String.reduceNe,  enc, *]))
  refine CallWP.to (sure_spec G c _) ?_
  iterate 12 (all_goals try first | contradiction | (with_reducible refine Al.intro ?_; intro b hb; (try simp only [hupd_none'] at hb); (repeat rcases hb with ⟨⟨hx, hy⟩, hb⟩)) | with_reducible refine condA_bool _ _ _ (fun h => ?_) (fun h => ?_) | with_reducible refine gV_true _ _ _ (fun h => ?_) (fun h => ?_) | with_reducible refine gV_false _ _ _ (fun h => ?_) (fun h => ?_) | ((fail_if_success with_reducible refine isCall ?_); (fail_if_success with_reducible refine isAWP ?_); (fail_if_success with_reducible refine isPart ?_); simp -implicitDefEqProofs only [go_sem, Nat.reduceEqDiff, Nat.reduceAdd, Nat.reduceLT, Nat.reduceMul, Nat.reduceSub, Nat.reduceLeDiff, ↓reduceIte, reduceCtorEq, ↓String.reduceEq, String.reduceNe,  enc, *]))
  all_goals refine ⟨m, (by (repeat refine Sub.fresh ?_ (by assumption)); exact Sub.refl m), ?_, rfl⟩
  all_goals simp only [rxGoodF, enc]
  all_goals (repeat' split)
  all_goals first | rfl | (simp_all; done) | (simp_all; omega) | (exfalso; simp_all; omega)
def rrightF (c : C3) : Bool := decide (0 ≤ c.1) && (decide (c.1 ≤ 256) && (decide (0 ≤ c.2.1) && (decide (c.2.1 ≤ 255) && (c.2.2 == (c.1 == 256)))))
theorem rright_spec (G : Nat → AVal) (c : C3) : Ans G 12 [enc c] (.bool (rrightF c)) := by
  intro m
  refine callWP_body Try.func12 rfl (N := 29) rfl (rs := [.tmp 2]) rfl en_12 (of_decide_eq_true rfl) ?_
  iterate 12 (all_goals try first | contradiction | (with_reducible refine Al.intro ?_; intro b hb; (try simp only [hupd_none'] at hb); (repeat rcases hb with ⟨⟨hx, hy⟩, hb⟩)) | with_reducible refine condA_bool _ _ _ (fun h => ?_) (fun h => ?_) | with_reducible refine gV_true _ _ _ (fun h => ?_) (fun h => ?_) | with_reducible refine gV_false _ _ _ (fun h => ?_) (fun h => ?_) | ((fail_if_success with_reducible refine isCall ?_); (fail_if_success with_reducible refine isAWP ?_); (fail_if_success with_reducible refine isPart ?_); simp -implicitDefEqProofs only [go_sem, Nat.reduceEqDiff, Nat.reduceAdd, Nat.reduceLT, Nat.reduceMul, Nat.reduceSub, Nat.reduceLeDiff, ↓reduceIte, reduceCtorEq, ↓String.reduceEq, String.reduceNe,  enc, *]))
  all_goals refine ⟨m, (by (repeat refine Sub.fresh ?_ (by assumption)); exact Sub.refl m), ?_, rfl⟩
  all_goals simp only [rrightF, enc]
  all_goals (repeat' split)
  all_goals first | rfl | (simp_all; done) | (simp_all; omega) | (exfalso; simp_all; omega)
def rsureF (c : C3) : C3 := if rrightF c = true then c else (0, 0, false)
theorem rsure_spec (G : Nat → AVal) (c : C3) : Ans G 46 [enc c] (enc (rsureF c)) := by
  intro m
  refine callWP_body Try.func46 rfl (N := 7) rfl (rs := [.cell 2 23]) rfl en_46 (of_decide_eq_true rfl) ?_
  iterate 12 (all_goals try first | contradiction | (with_reducible refine Al.intro ?_; intro b hb; (try simp only [hupd_none'] at hb); (repeat rcases hb with ⟨⟨hx, hy⟩, hb⟩)) | with_reducible refine condA_bool _ _ _ (fun h => ?_) (fun h => ?_) | with_reducible refine gV_true _ _ _ (fun h => ?_) (fun h => ?_) | with_reducible refine gV_false _ _ _ (fun h => ?_) (fun h => ?_) | ((fail_if_success with_reducible refine isCall ?_); (fail_if_success with_reducible refine isAWP ?_); (fail_if_success with_reducible refine isPart ?_); simp -implicitDefEqProofs only [go_sem, Nat.reduceEqDiff, Nat.reduceAdd, Nat.reduceLT, Nat.reduceMul, Nat.reduceSub, Nat.reduceLeDiff, ↓reduceIte, reduceCtorEq, ↓String.reduceEq, String.reduceNe,  enc, *]))
  refine CallWP.to (rright_spec G c _) ?_
  iterate 12 (all_goals try first | contradiction | (with_reducible refine Al.intro ?_; intro b hb; (try simp only [hupd_none'] at hb); (repeat rcases hb with ⟨⟨hx, hy⟩, hb⟩)) | with_reducible refine condA_bool _ _ _ (fun h => ?_) (fun h => ?_) | with_reducible refine gV_true _ _ _ (fun h => ?_) (fun h => ?_) | with_reducible refine gV_false _ _ _ (fun h => ?_) (fun h => ?_) | ((fail_if_success with_reducible refine isCall ?_); (fail_if_success with_reducible refine isAWP ?_); (fail_if_success with_reducible refine isPart ?_); simp -implicitDefEqProofs only [go_sem, Nat.reduceEqDiff, Nat.reduceAdd, Nat.reduceLT, Nat.reduceMul, Nat.reduceSub, Nat.reduceLeDiff, ↓reduceIte, reduceCtorEq, ↓String.reduceEq, String.reduceNe,  enc, *]))
  all_goals refine ⟨m, (by (repeat refine Sub.fresh ?_ (by assumption)); exact Sub.refl m), ?_, rfl⟩
  all_goals simp only [rsureF, enc]
  all_goals (repeat' split)
  all_goals first | rfl | (simp_all; done) | (simp_all; omega) | (exfalso; simp_all; omega)
def rmodeF (c : C3) : Int := let d := rsureF c; if d.2.2 = true then 2 else if d.1 ≥ 128 then 1 else if d.2.1 ≥ 128 then 1 else 0
theorem rmode_spec (G : Nat → AVal) (c : C3) : Ans G 14 [enc c] (.int .i64 (rmodeF c)) := by
  intro m
  refine callWP_body Try.func14 rfl (N := 15) rfl (rs := [.tmp 2]) rfl en_14 (of_decide_eq_true rfl) ?_
  iterate 12 (all_goals try first | contradiction | (with_reducible refine Al.intro ?_; intro b hb; (try simp only [hupd_none'] at hb); (repeat rcases hb with ⟨⟨hx, hy⟩, hb⟩)) | with_reducible refine condA_bool _ _ _ (fun h => ?_) (fun h => ?_) | with_reducible refine gV_true _ _ _ (fun h => ?_) (fun h => ?_) | with_reducible refine gV_false _ _ _ (fun h => ?_) (fun h => ?_) | ((fail_if_success with_reducible refine isCall ?_); (fail_if_success with_reducible refine isAWP ?_); (fail_if_success with_reducible refine isPart ?_); simp -implicitDefEqProofs only [go_sem, Nat.reduceEqDiff, Nat.reduceAdd, Nat.reduceLT, Nat.reduceMul, Nat.reduceSub, Nat.reduceLeDiff, ↓reduceIte, reduceCtorEq, ↓String.reduceEq, String.reduceNe,  enc, *]))
  refine CallWP.to (rsure_spec G c _) ?_
  iterate 12 (all_goals try first | contradiction | (with_reducible refine Al.intro ?_; intro b hb; (try simp only [hupd_none'] at hb); (repeat rcases hb with ⟨⟨hx, hy⟩, hb⟩)) | with_reducible refine condA_bool _ _ _ (fun h => ?_) (fun h => ?_) | with_reducible refine gV_true _ _ _ (fun h => ?_) (fun h => ?_) | with_reducible refine gV_false _ _ _ (fun h => ?_) (fun h => ?_) | ((fail_if_success with_reducible refine isCall ?_); (fail_if_success with_reducible refine isAWP ?_); (fail_if_success with_reducible refine isPart ?_); simp -implicitDefEqProofs only [go_sem, Nat.reduceEqDiff, Nat.reduceAdd, Nat.reduceLT, Nat.reduceMul, Nat.reduceSub, Nat.reduceLeDiff, ↓reduceIte, reduceCtorEq, ↓String.reduceEq, String.reduceNe,  enc, *]))
  all_goals refine ⟨m, (by (repeat refine Sub.fresh ?_ (by assumption)); exact Sub.refl m), ?_, rfl⟩
  all_goals simp only [rmodeF, enc]
  all_goals (repeat' split)
  all_goals first | rfl | (simp_all; done) | (simp_all; omega) | (exfalso; simp_all; omega)
def rtxFailF (c : C3) : C3 := let d := rsureF c; let t := IntKind.i64.wrap (d.1 + 8); if t < 256 then (t, d.2.1, d.2.2) else (256, d.2.1, true)
theorem rtxFail_spec (G : Nat → AVal) (c : C3) : Ans G 16 [enc c] (enc (rtxFailF c)) := by
  intro m
  refine callWP_body Try.func16 rfl (N := 15) rfl (rs := [.cell 2 23]) rfl en_16 (of_decide_eq_true rfl) ?_
  iterate 12 (all_goals try first | contradiction | (with_reducible refine Al.intro ?_; intro b hb; (try simp only [hupd_none'] at hb); (repeat rcases hb with ⟨⟨hx, hy⟩, hb⟩)) | with_reducible refine condA_bool _ _ _ (fun h => ?_) (fun h => ?_) | with_reducible refine gV_true _ _ _ (fun h => ?_) (fun h => ?_) | with_reducible refine gV_false _ _ _ (fun h => ?_) (fun h => ?_) | ((fail_if_success with_reducible refine isCall ?_); (fail_if_success with_reducible refine isAWP ?_); (fail_if_success with_reducible refine isPart ?_); simp -implicitDefEqProofs only [go_sem, Nat.reduceEqDiff, Nat.reduceAdd, Nat.reduceLT, Nat.reduceMul, Nat.reduceSub, Nat.reduceLeDiff, ↓reduceIte, reduceCtorEq, ↓String.reduceEq, String.reduceNe,  enc, *]))
  refine CallWP.to (rsure_spec G c _) ?_
  iterate 12 (all_goals try first | contradiction | (with_reducible refine Al.intro ?_; intro b hb; (try simp only [hupd_none'] at hb); (repeat rcases hb with ⟨⟨hx, hy⟩, hb⟩)) | with_reducible refine condA_bool _ _ _ (fun h => ?_) (fun h => ?_) | with_reducible refine gV_true _ _ _ (fun h => ?_) (fun h => ?_) | with_reducible refine gV_false _ _ _ (fun h => ?_) (fun h => ?_) | ((fail_if_success with_reducible refine isCall ?_); (fail_if_success with_reducible refine isAWP ?_); (fail_if_success with_reducible refine isPart ?_); simp -implicitDefEqProofs only [go_sem, Nat.reduceEqDiff, Nat.reduceAdd, Nat.reduceLT, Nat.reduceMul, Nat.reduceSub, Nat.reduceLeDiff, ↓reduceIte, reduceCtorEq, ↓String.reduceEq, String.reduceNe,  enc, *]))
  all_goals refine ⟨m, (by (repeat refine Sub.fresh ?_ (by assumption)); exact Sub.refl m), ?_, rfl⟩
  all_goals simp only [rtxFailF, enc]
  all_goals (repeat' split)
  all_goals first | rfl | (simp_all; done) | (simp_all; omega) | (exfalso; simp_all; omega)
def rrxFailF (c : C3) (b : Int) : C3 := let d := rsureF c; if b < 1 then d else if IntKind.i64.wrap (255 - d.2.1) < b then (d.1, 255, d.2.2) else (d.1, IntKind.i64.wrap (d.2.1 + b), d.2.2)
theorem rrxFail_spec (G : Nat → AVal) (c : C3) (b : Int) : Ans G 18 [enc c, .int .i64 b] (enc (rrxFailF c b)) := by
  intro m
  refine callWP_body Try.func18 rfl (N := 23) rfl (rs := [.cell 4 23]) rfl en_18 (of_decide_eq_true rfl) ?_
  iterate 12 (all_goals try first | contradiction | (with_reducible refine Al.intro ?_; intro b hb; (try simp only [hupd_none'] at hb); (repeat rcases hb with ⟨⟨hx, hy⟩, hb⟩)) | with_reducible refine condA_bool _ _ _ (fun h => ?_) (fun h => ?_) | with_reducible refine gV_true _ _ _ (fun h => ?_) (fun h => ?_) | with_reducible refine gV_false _ _ _ (fun h => ?_) (fun h => ?_) | ((fail_if_success with_reducible refine isCall ?_); (fail_if_success with_reducible refine isAWP ?_); (fail_if_success with_reducible refine isPart ?_); simp -implicitDefEqProofs only [go_sem, Nat.reduceEqDiff, Nat.reduceAdd, Nat.reduceLT, Nat.reduceMul, Nat.reduceSub, Nat.reduceLeDiff, ↓reduceIte, reduceCtorEq, ↓String.reduceEq, String.reduceNe,  enc, *]))
  refine CallWP.to (rsure_spec G c _) ?_
  iterate 12 (all_goals try first | contradiction | (with_reducible refine Al.intro ?_; intro b hb; (try simp only [hupd_none'] at hb); (repeat rcases hb with ⟨⟨hx, hy⟩, hb⟩)) | with_reducible refine condA_bool _ _ _ (fun h => ?_) (fun h => ?_) | with_reducible refine gV_true _ _ _ (fun h => ?_) (fun h => ?_) | with_reducible refine gV_false _ _ _ (fun h => ?_) (fun h => ?_) | ((fail_if_success with_reducible refine isCall ?_); (fail_if_success with_reducible refine isAWP ?_); (fail_if_success with_reducible refine isPart ?_); simp -implicitDefEqProofs only [go_sem, Nat.reduceEqDiff, Nat.reduceAdd, Nat.reduceLT, Nat.reduceMul, Nat.reduceSub, Nat.reduceLeDiff, ↓reduceIte, reduceCtorEq, ↓String.reduceEq, String.reduceNe,  enc, *]))
  all_goals refine ⟨m, (by (repeat refine Sub.fresh ?_ (by assumption)); exact Sub.refl m), ?_, rfl⟩
  all_goals simp only [rrxFailF, enc]
  all_goals (repeat' split)
  all_goals first | rfl | (simp_all; done) | (simp_all; omega) | (exfalso; simp_all; omega)
def rtxGoodF (c : C3) : C3 := let d := rsureF c; if 0 < d.1 then (if d.2.2 = true then d else (IntKind.i64.wrap (d.1 - 1), d.2.1, d.2.2)) else d
theorem rtxGood_spec (G : Nat → AVal) (c : C3) : Ans G 20 [enc c] (enc (rtxGoodF c)) := by
  intro m
  refine callWP_body Try.func20 rfl (N := 18) rfl (rs := [.cell 2 23]) rfl en_20 (of_decide_eq_true rfl) ?_
  iterate 12 (all_goals try first | contradiction | (with_reducible refine Al.intro ?_; intro b hb; (try simp only [hupd_none'] at hb); (repeat rcases hb with ⟨⟨hx, hy⟩, hb⟩)) | with_reducible refine condA_bool _ _ _ (fun h => ?_) (fun h => ?_) | with_reducible refine gV_true _ _ _ (fun h => ?_) (fun h => ?_) | with_reducible refine gV_false _ _ _ (fun h => ?_) (fun h => ?_) | ((fail_if_success with_reducible refine isCall ?_); (fail_if_success with_reducible refine isAWP ?_); (fail_if_success with_reducible refine isPart ?_); simp -implicitDefEqProofs only [go_sem, Nat.reduceEqDiff, Nat.reduceAdd, Nat.reduceLT, Nat.reduceMul, Nat.reduceSub, Nat.reduceLeDiff, ↓reduceIte, reduceCtorEq, ↓String.reduceEq, String.reduceNe,  enc, *]))
  refine CallWP.to (rsure_spec G c _) ?_
  iterate 12 (all_goals try first | contradiction | (with_reducible refine Al.intro ?_; intro b hb; (try simp only [hupd_none'] at hb); (repeat rcases hb with ⟨⟨hx, hy⟩, hb⟩)) | with_reducible refine condA_bool _ _ _ (fun h => ?_) (fun h => ?_) | with_reducible refine gV_true _ _ _ (fun h => ?_) (fun h => ?_) | with_reducible refine gV_false _ _ _ (fun h => ?_) (fun h => ?_) | ((fail_if_success with_reducible refine isCall ?_); (fail_if_success with_reducible refine isAWP ?_); (fail_if_success with_reducible refine isPart ?_); simp -implicitDefEqProofs only [go_sem, Nat.reduceEqDiff, Nat.reduceAdd, Nat.reduceLT, Nat.reduceMul, Nat.reduceSub, Nat.reduceLeDiff, ↓reduceIte, reduceCtorEq, ↓String.reduceEq, String.reduceNe,  enc, *]))
  all_goals refine ⟨m, (by (repeat refine Sub.fresh ?_ (by assumption)); exact Sub.refl m), ?_, rfl⟩
  all_goals simp only [rtxGoodF, enc]
  all_goals (repeat' split)
  all_goals first | rfl | (simp_all; done) | (simp_all; omega) | (exfalso; simp_all; omega)
def rrxGoodF (c : C3) : C3 := let d := rsureF c; if d.2.1 < 128 then (if 0 < d.2.1 then (d.1, IntKind.i64.wrap (d.2.1 - 1), d.2.2) else d) else (d.1, 120, d.2.2)
theorem rrxGood_spec (G : Nat → AVal) (c : C3) : Ans G 22 [enc c] (enc (rrxGoodF c)) := by
  intro m
  refine callWP_body Try.func22 rfl (N := 17) rfl (rs := [.cell 2 23]) rfl en_22 (of_decide_eq_true rfl) ?_
  iterate 12 (all_goals try first | contradiction | (with_reducible refine Al.intro ?_; intro b hb; (try simp only [hupd_none'] at hb); (repeat rcases hb with ⟨⟨hx, hy⟩, hb⟩)) | with_reducible refine condA_bool _ _ _ (fun h => ?_) (fun h => ?_) | with_reducible refine gV_true _ _ _ (fun h => ?_) (fun h => ?_) | with_reducible refine gV_false _ _ _ (fun h => ?_) (fun h => ?_) | ((fail_if_success with_reducible refine isCall ?_); (fail_if_success with_reducible refine isAWP ?_); (fail_if_success with_reducible refine isPart ?_); simp -implicitDefEqProofs only [go_sem, Nat.reduceEqDiff, Nat.reduceAdd, Nat.reduceLT, Nat.reduceMul, Nat.reduceSub, Nat.reduceLeDiff, ↓reduceIte, reduceCtorEq, ↓String.reduceEq, String.reduceNe,  enc, *]))
  refine CallWP.to (rsure_spec G c _) ?_
  iterate 12 (all_goals try first | contradiction | (with_reducible refine Al.intro ?_; intro b hb; (try simp only [hupd_none'] at hb); (repeat rcases hb with ⟨⟨hx, hy⟩, hb⟩)) | with_reducible refine condA_bool _ _ _ (fun h => ?_) (fun h => ?_) | with_reducible refine gV_true _ _ _ (fun h => ?_) (fun h => ?_) | with_reducible refine gV_false _ _ _ (fun h => ?_) (fun h => ?_) | ((fail_if_success with_reducible refine isCall ?_); (fail_if_success with_reducible refine isAWP ?_); (fail_if_success with_reducible refine isPart ?_); simp -implicitDefEqProofs only [go_sem, Nat.reduceEqDiff, Nat.reduceAdd, Nat.reduceLT, Nat.reduceMul, Nat.reduceSub, Nat.reduceLeDiff, ↓reduceIte, reduceCtorEq, ↓String.reduceEq, String.reduceNe,  enc, *]))
  all_goals refine ⟨m, (by (repeat refine Sub.fresh ?_ (by assumption)); exact Sub.refl m), ?_, rfl⟩
  all_goals simp only [rrxGoodF, enc]
  all_goals (repeat' split)
  all_goals first | rfl | (simp_all; done) | (simp_all; omega) | (exfalso; simp_all; omega)
end Go.Proofs.Ytcdhihoghkkahaa
