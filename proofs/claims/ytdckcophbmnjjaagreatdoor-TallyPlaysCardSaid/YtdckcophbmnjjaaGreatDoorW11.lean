/- Which stream came off worst: the parts. Which stream came off worst. -/
import Derived.Test.YtdckcophbmnjjaaGreatDoorW9
set_option linter.all false
namespace Go.Proofs.YtdckcophbmnjjaaGreatDoor
open Go Go.Proofs.YtdckcophbmnjjaaGreatDoor.Ab
open Go.Proofs (Tryz.prog)
set_option maxRecDepth 100000
theorem nanI_spec (G : Nat → AVal) (x : Int) : Ans G 68 [.int .i64 x] (.bool false) := by
  intro m
  refine callWP_body Tryz.func68 rfl (N := 6) rfl (rs := [.tmp 2]) rfl en_68 (of_decide_eq_true rfl) ?_
  repeat' (first | exact tf0 ‹_› | exact tf1 ‹_› | exact False.elim ‹_› | (with_reducible refine Al.intro ?_; intro pb hpb; (try simp only [hupd_none'] at hpb); (repeat rcases hpb with ⟨⟨hpx, hpy⟩, hpb⟩)) | with_reducible refine need ?_ | ((with_reducible first | apply frk0 | apply frk1 | apply frk2 | apply frk3 | apply frk4 | apply frk5 | apply frk6 | apply frk7 | apply frk8 | apply frk9) <;> intro h <;> try (exfalso; omega)) | with_reducible refine quiet_and ?_ ?_ | with_reducible refine awp_drawnA mixed (by decide +kernel) ?_ | ((fail_if_success with_reducible refine stp ?_); simp -implicitDefEqProofs only [go_sem, Nat.reduceEqDiff, Nat.reduceAdd, Nat.reduceLT, Nat.reduceMul, Nat.reduceSub, Nat.reduceLeDiff, ↓reduceIte, reduceCtorEq, ↓String.reduceEq, String.reduceNe, Int.reduceToNat, Int.reduceLT, Int.reduceLE, Int.reduceGT, Int.reduceGE, Int.reduceEq, Int.reduceNe, Int.reduceBEq, Int.reduceBNe, Int.reduceAdd, Int.reduceSub, Int.reduceMul, Int.reduceNeg,  *]))
  exact ⟨_, (by (repeat refine Sub.fresh ?_ (by assumption)); exact Sub.refl _), rfl, rfl⟩
def cmpI (x y : Int) : Int := if x < y then -1 else if y < x then 1 else 0
theorem compare_spec (G : Nat → AVal) (x y : Int) : Ans G 55 [.int .i64 x, .int .i64 y] (.int .i64 (cmpI x y)) := by
  intro m
  by_cases h1 : x < y
  · have HX := Hid.mk (show cmpI x y = -1 by unfold cmpI; rw [if_pos h1])
    refine callWP_body Tryz.func55 rfl (N := 20) rfl (rs := [.tmp 4]) rfl en_55 (of_decide_eq_true rfl) ?_
    repeat' (first | exact tf0 ‹_› | exact tf1 ‹_› | exact False.elim ‹_› | (with_reducible refine Al.intro ?_; intro pb hpb; (try simp only [hupd_none'] at hpb); (repeat rcases hpb with ⟨⟨hpx, hpy⟩, hpb⟩)) | with_reducible refine need ?_ | ((with_reducible first | apply frk0 | apply frk1 | apply frk2 | apply frk3 | apply frk4 | apply frk5 | apply frk6 | apply frk7 | apply frk8 | apply frk9) <;> intro h <;> try (exfalso; omega)) | with_reducible refine quiet_and ?_ ?_ | with_reducible refine awp_drawnA mixed (by decide +kernel) ?_ | ((fail_if_success with_reducible refine stp ?_); simp -implicitDefEqProofs only [go_sem, Nat.reduceEqDiff, Nat.reduceAdd, Nat.reduceLT, Nat.reduceMul, Nat.reduceSub, Nat.reduceLeDiff, ↓reduceIte, reduceCtorEq, ↓String.reduceEq, String.reduceNe, Int.reduceToNat, Int.reduceLT, Int.reduceLE, Int.reduceGT, Int.reduceGE, Int.reduceEq, Int.reduceNe, Int.reduceBEq, Int.reduceBNe, Int.reduceAdd, Int.reduceSub, Int.reduceMul, Int.reduceNeg,  *]))
    refine CallWP.to (nanI_spec G x _) ?_
    repeat' (first | exact tf0 ‹_› | exact tf1 ‹_› | exact False.elim ‹_› | (with_reducible refine Al.intro ?_; intro pb hpb; (try simp only [hupd_none'] at hpb); (repeat rcases hpb with ⟨⟨hpx, hpy⟩, hpb⟩)) | with_reducible refine need ?_ | ((with_reducible first | apply frk0 | apply frk1 | apply frk2 | apply frk3 | apply frk4 | apply frk5 | apply frk6 | apply frk7 | apply frk8 | apply frk9) <;> intro h <;> try (exfalso; omega)) | with_reducible refine quiet_and ?_ ?_ | with_reducible refine awp_drawnA mixed (by decide +kernel) ?_ | ((fail_if_success with_reducible refine stp ?_); simp -implicitDefEqProofs only [go_sem, Nat.reduceEqDiff, Nat.reduceAdd, Nat.reduceLT, Nat.reduceMul, Nat.reduceSub, Nat.reduceLeDiff, ↓reduceIte, reduceCtorEq, ↓String.reduceEq, String.reduceNe, Int.reduceToNat, Int.reduceLT, Int.reduceLE, Int.reduceGT, Int.reduceGE, Int.reduceEq, Int.reduceNe, Int.reduceBEq, Int.reduceBNe, Int.reduceAdd, Int.reduceSub, Int.reduceMul, Int.reduceNeg,  *]))
    refine CallWP.to (nanI_spec G y _) ?_
    repeat' (first | exact tf0 ‹_› | exact tf1 ‹_› | exact False.elim ‹_› | (with_reducible refine Al.intro ?_; intro pb hpb; (try simp only [hupd_none'] at hpb); (repeat rcases hpb with ⟨⟨hpx, hpy⟩, hpb⟩)) | with_reducible refine need ?_ | ((with_reducible first | apply frk0 | apply frk1 | apply frk2 | apply frk3 | apply frk4 | apply frk5 | apply frk6 | apply frk7 | apply frk8 | apply frk9) <;> intro h <;> try (exfalso; omega)) | with_reducible refine quiet_and ?_ ?_ | with_reducible refine awp_drawnA mixed (by decide +kernel) ?_ | ((fail_if_success with_reducible refine stp ?_); simp -implicitDefEqProofs only [go_sem, Nat.reduceEqDiff, Nat.reduceAdd, Nat.reduceLT, Nat.reduceMul, Nat.reduceSub, Nat.reduceLeDiff, ↓reduceIte, reduceCtorEq, ↓String.reduceEq, String.reduceNe, Int.reduceToNat, Int.reduceLT, Int.reduceLE, Int.reduceGT, Int.reduceGE, Int.reduceEq, Int.reduceNe, Int.reduceBEq, Int.reduceBNe, Int.reduceAdd, Int.reduceSub, Int.reduceMul, Int.reduceNeg,  *]))
    exact ⟨_, (by (repeat refine Sub.fresh ?_ (by assumption)); exact Sub.refl _), by rw [HX.out], rfl⟩
  · by_cases h2 : y < x
    · have h3 : x > y := h2
      have HX := Hid.mk (show cmpI x y = 1 by unfold cmpI; rw [if_neg h1, if_pos h2])
      refine callWP_body Tryz.func55 rfl (N := 20) rfl (rs := [.tmp 4]) rfl en_55 (of_decide_eq_true rfl) ?_
      repeat' (first | exact tf0 ‹_› | exact tf1 ‹_› | exact False.elim ‹_› | (with_reducible refine Al.intro ?_; intro pb hpb; (try simp only [hupd_none'] at hpb); (repeat rcases hpb with ⟨⟨hpx, hpy⟩, hpb⟩)) | with_reducible refine need ?_ | ((with_reducible first | apply frk0 | apply frk1 | apply frk2 | apply frk3 | apply frk4 | apply frk5 | apply frk6 | apply frk7 | apply frk8 | apply frk9) <;> intro h <;> try (exfalso; omega)) | with_reducible refine quiet_and ?_ ?_ | with_reducible refine awp_drawnA mixed (by decide +kernel) ?_ | ((fail_if_success with_reducible refine stp ?_); simp -implicitDefEqProofs only [go_sem, Nat.reduceEqDiff, Nat.reduceAdd, Nat.reduceLT, Nat.reduceMul, Nat.reduceSub, Nat.reduceLeDiff, ↓reduceIte, reduceCtorEq, ↓String.reduceEq, String.reduceNe, Int.reduceToNat, Int.reduceLT, Int.reduceLE, Int.reduceGT, Int.reduceGE, Int.reduceEq, Int.reduceNe, Int.reduceBEq, Int.reduceBNe, Int.reduceAdd, Int.reduceSub, Int.reduceMul, Int.reduceNeg,  *]))
      refine CallWP.to (nanI_spec G x _) ?_
      repeat' (first | exact tf0 ‹_› | exact tf1 ‹_› | exact False.elim ‹_› | (with_reducible refine Al.intro ?_; intro pb hpb; (try simp only [hupd_none'] at hpb); (repeat rcases hpb with ⟨⟨hpx, hpy⟩, hpb⟩)) | with_reducible refine need ?_ | ((with_reducible first | apply frk0 | apply frk1 | apply frk2 | apply frk3 | apply frk4 | apply frk5 | apply frk6 | apply frk7 | apply frk8 | apply frk9) <;> intro h <;> try (exfalso; omega)) | with_reducible refine quiet_and ?_ ?_ | with_reducible refine awp_drawnA mixed (by decide +kernel) ?_ | ((fail_if_success with_reducible refine stp ?_); simp -implicitDefEqProofs only [go_sem, Nat.reduceEqDiff, Nat.reduceAdd, Nat.reduceLT, Nat.reduceMul, Nat.reduceSub, Nat.reduceLeDiff, ↓reduceIte, reduceCtorEq, ↓String.reduceEq, String.reduceNe, Int.reduceToNat, Int.reduceLT, Int.reduceLE, Int.reduceGT, Int.reduceGE, Int.reduceEq, Int.reduceNe, Int.reduceBEq, Int.reduceBNe, Int.reduceAdd, Int.reduceSub, Int.reduceMul, Int.reduceNeg,  *]))
      refine CallWP.to (nanI_spec G y _) ?_
      repeat' (first | exact tf0 ‹_› | exact tf1 ‹_› | exact False.elim ‹_› | (with_reducible refine Al.intro ?_; intro pb hpb; (try simp only [hupd_none'] at hpb); (repeat rcases hpb with ⟨⟨hpx, hpy⟩, hpb⟩)) | with_reducible refine need ?_ | ((with_reducible first | apply frk0 | apply frk1 | apply frk2 | apply frk3 | apply frk4 | apply frk5 | apply frk6 | apply frk7 | apply frk8 | apply frk9) <;> intro h <;> try (exfalso; omega)) | with_reducible refine quiet_and ?_ ?_ | with_reducible refine awp_drawnA mixed (by decide +kernel) ?_ | ((fail_if_success with_reducible refine stp ?_); simp -implicitDefEqProofs only [go_sem, Nat.reduceEqDiff, Nat.reduceAdd, Nat.reduceLT, Nat.reduceMul, Nat.reduceSub, Nat.reduceLeDiff, ↓reduceIte, reduceCtorEq, ↓String.reduceEq, String.reduceNe, Int.reduceToNat, Int.reduceLT, Int.reduceLE, Int.reduceGT, Int.reduceGE, Int.reduceEq, Int.reduceNe, Int.reduceBEq, Int.reduceBNe, Int.reduceAdd, Int.reduceSub, Int.reduceMul, Int.reduceNeg,  *]))
      exact ⟨_, (by (repeat refine Sub.fresh ?_ (by assumption)); exact Sub.refl _), by rw [HX.out], rfl⟩
    · have h3 : ¬ x > y := h2
      have HX := Hid.mk (show cmpI x y = 0 by unfold cmpI; rw [if_neg h1, if_neg h2])
      refine callWP_body Tryz.func55 rfl (N := 20) rfl (rs := [.tmp 4]) rfl en_55 (of_decide_eq_true rfl) ?_
      repeat' (first | exact tf0 ‹_› | exact tf1 ‹_› | exact False.elim ‹_› | (with_reducible refine Al.intro ?_; intro pb hpb; (try simp only [hupd_none'] at hpb); (repeat rcases hpb with ⟨⟨hpx, hpy⟩, hpb⟩)) | with_reducible refine need ?_ | ((with_reducible first | apply frk0 | apply frk1 | apply frk2 | apply frk3 | apply frk4 | apply frk5 | apply frk6 | apply frk7 | apply frk8 | apply frk9) <;> intro h <;> try (exfalso; omega)) | with_reducible refine quiet_and ?_ ?_ | with_reducible refine awp_drawnA mixed (by decide +kernel) ?_ | ((fail_if_success with_reducible refine stp ?_); simp -implicitDefEqProofs only [go_sem, Nat.reduceEqDiff, Nat.reduceAdd, Nat.reduceLT, Nat.reduceMul, Nat.reduceSub, Nat.reduceLeDiff, ↓reduceIte, reduceCtorEq, ↓String.reduceEq, String.reduceNe, Int.reduceToNat, Int.reduceLT, Int.reduceLE, Int.reduceGT, Int.reduceGE, Int.reduceEq, Int.reduceNe, Int.reduceBEq, Int.reduceBNe, Int.reduceAdd, Int.reduceSub, Int.reduceMul, Int.reduceNeg,  *]))
      refine CallWP.to (nanI_spec G x _) ?_
      repeat' (first | exact tf0 ‹_› | exact tf1 ‹_› | exact False.elim ‹_› | (with_reducible refine Al.intro ?_; intro pb hpb; (try simp only [hupd_none'] at hpb); (repeat rcases hpb with ⟨⟨hpx, hpy⟩, hpb⟩)) | with_reducible refine need ?_ | ((with_reducible first | apply frk0 | apply frk1 | apply frk2 | apply frk3 | apply frk4 | apply frk5 | apply frk6 | apply frk7 | apply frk8 | apply frk9) <;> intro h <;> try (exfalso; omega)) | with_reducible refine quiet_and ?_ ?_ | with_reducible refine awp_drawnA mixed (by decide +kernel) ?_ | ((fail_if_success with_reducible refine stp ?_); simp -implicitDefEqProofs only [go_sem, Nat.reduceEqDiff, Nat.reduceAdd, Nat.reduceLT, Nat.reduceMul, Nat.reduceSub, Nat.reduceLeDiff, ↓reduceIte, reduceCtorEq, ↓String.reduceEq, String.reduceNe, Int.reduceToNat, Int.reduceLT, Int.reduceLE, Int.reduceGT, Int.reduceGE, Int.reduceEq, Int.reduceNe, Int.reduceBEq, Int.reduceBNe, Int.reduceAdd, Int.reduceSub, Int.reduceMul, Int.reduceNeg,  *]))
      refine CallWP.to (nanI_spec G y _) ?_
      repeat' (first | exact tf0 ‹_› | exact tf1 ‹_› | exact False.elim ‹_› | (with_reducible refine Al.intro ?_; intro pb hpb; (try simp only [hupd_none'] at hpb); (repeat rcases hpb with ⟨⟨hpx, hpy⟩, hpb⟩)) | with_reducible refine need ?_ | ((with_reducible first | apply frk0 | apply frk1 | apply frk2 | apply frk3 | apply frk4 | apply frk5 | apply frk6 | apply frk7 | apply frk8 | apply frk9) <;> intro h <;> try (exfalso; omega)) | with_reducible refine quiet_and ?_ ?_ | with_reducible refine awp_drawnA mixed (by decide +kernel) ?_ | ((fail_if_success with_reducible refine stp ?_); simp -implicitDefEqProofs only [go_sem, Nat.reduceEqDiff, Nat.reduceAdd, Nat.reduceLT, Nat.reduceMul, Nat.reduceSub, Nat.reduceLeDiff, ↓reduceIte, reduceCtorEq, ↓String.reduceEq, String.reduceNe, Int.reduceToNat, Int.reduceLT, Int.reduceLE, Int.reduceGT, Int.reduceGE, Int.reduceEq, Int.reduceNe, Int.reduceBEq, Int.reduceBNe, Int.reduceAdd, Int.reduceSub, Int.reduceMul, Int.reduceNeg,  *]))
      exact ⟨_, (by (repeat refine Sub.fresh ?_ (by assumption)); exact Sub.refl _), by rw [HX.out], rfl⟩
set_option maxHeartbeats 1000000 in
theorem or_spec (G : Nat → AVal) (x y : Int) (b : Nat) (m : Heap) (hb : m b = some (.cells [.int .i64 x, .int .i64 y] 2)) : CallWP Tryz.prog G 54 [.slice b 0 2 2] m fun w m' => w = .int .i64 (if x = 0 then y else x) ∧ m' = m := by
  refine callWP_body Tryz.func54 rfl (N := 18) rfl (rs := [.tmp 2]) rfl en_54 (of_decide_eq_true rfl) ?_
  repeat' (first | exact tf0 ‹_› | exact tf1 ‹_› | exact False.elim ‹_› | (with_reducible refine Al.intro ?_; intro pb hpb; (try simp only [hupd_none'] at hpb); (repeat rcases hpb with ⟨⟨hpx, hpy⟩, hpb⟩)) | with_reducible refine need ?_ | ((with_reducible first | apply frk0 | apply frk1 | apply frk2 | apply frk3 | apply frk4 | apply frk5 | apply frk6 | apply frk7 | apply frk8 | apply frk9) <;> intro h <;> try (exfalso; omega)) | with_reducible refine quiet_and ?_ ?_ | with_reducible refine awp_drawnA mixed (by decide +kernel) ?_ | ((fail_if_success with_reducible refine stp ?_); simp -implicitDefEqProofs only [go_sem, Nat.reduceEqDiff, Nat.reduceAdd, Nat.reduceLT, Nat.reduceMul, Nat.reduceSub, Nat.reduceLeDiff, ↓reduceIte, reduceCtorEq, ↓String.reduceEq, String.reduceNe, Int.reduceToNat, Int.reduceLT, Int.reduceLE, Int.reduceGT, Int.reduceGE, Int.reduceEq, Int.reduceNe, Int.reduceBEq, Int.reduceBNe, Int.reduceAdd, Int.reduceSub, Int.reduceMul, Int.reduceNeg,  *]))
  have w1 : IntKind.i64.wrap 1 = 1 := by decide
  have w2 : IntKind.i64.wrap 2 = 2 := by decide
  refine awp_loopP 0 (fun ts m' => m' = m ∧ x = 0 ∧ y = 0 ∧ ts 3 = .int .i64 0) (fun n ts m' => m' = m ∧ ts 3 = .int .i64 0 ∧ ts 6 = .slice b 0 2 2 ∧ ts 7 = .int .i64 2 ∧ ((n = 2 ∧ ts 8 = .int .i64 0) ∨ (n = 1 ∧ x = 0 ∧ ts 8 = .int .i64 1) ∨ (n = 0 ∧ x = 0 ∧ y = 0 ∧ ts 8 = .int .i64 2))) 2 ⟨rfl, ttt, ttt, ttt, .inl ⟨rfl, ttt⟩⟩ ?_ ?_
  · rintro n ts m' ⟨hm, t3, t6, t7, ⟨rfl, t8⟩ | ⟨rfl, hx, t8⟩ | ⟨rfl, hx, hy, t8⟩⟩ <;> subst m'
    · by_cases h : x = 0
      · have hb0 : (x != 0) = false := by simpa using h
        have HX := Hid.mk h
        clear h
        repeat' (first | exact tf0 ‹_› | exact tf1 ‹_› | exact False.elim ‹_› | (with_reducible refine Al.intro ?_; intro pb hpb; (try simp only [hupd_none'] at hpb); (repeat rcases hpb with ⟨⟨hpx, hpy⟩, hpb⟩)) | with_reducible refine need ?_ | ((with_reducible first | apply frk0 | apply frk1 | apply frk2 | apply frk3 | apply frk4 | apply frk5 | apply frk6 | apply frk7 | apply frk8 | apply frk9) <;> intro h <;> try (exfalso; omega)) | with_reducible refine quiet_and ?_ ?_ | with_reducible refine awp_drawnA mixed (by decide +kernel) ?_ | ((fail_if_success with_reducible refine stp ?_); simp -implicitDefEqProofs only [go_sem, Nat.reduceEqDiff, Nat.reduceAdd, Nat.reduceLT, Nat.reduceMul, Nat.reduceSub, Nat.reduceLeDiff, ↓reduceIte, reduceCtorEq, ↓String.reduceEq, String.reduceNe, Int.reduceToNat, Int.reduceLT, Int.reduceLE, Int.reduceGT, Int.reduceGE, Int.reduceEq, Int.reduceNe, Int.reduceBEq, Int.reduceBNe, Int.reduceAdd, Int.reduceSub, Int.reduceMul, Int.reduceNeg,  *]))
        exact Again.intro ⟨1, by decide, _, Sub.refl _, rfl, (by first | (simp only [upd, put, Nat.reduceEqDiff, ↓reduceIte, t3]; done) | (simp [upd, put, t3]; done) | rfl | (simp [upd, put, t3]; rfl)), (by first | (simp only [upd, put, Nat.reduceEqDiff, ↓reduceIte, t6]; done) | (simp [upd, put, t6]; done) | rfl | (simp [upd, put, t6]; rfl)), (by first | (simp only [upd, put, Nat.reduceEqDiff, ↓reduceIte, t7]; done) | (simp [upd, put, t7]; done) | rfl | (simp [upd, put, t7]; rfl)), .inr (.inl ⟨rfl, HX.out, ttt⟩)⟩
      · have hb0 : (x != 0) = true := by simpa using h
        have HX := Hid.mk h
        clear h
        repeat' (first | exact tf0 ‹_› | exact tf1 ‹_› | exact False.elim ‹_› | (with_reducible refine Al.intro ?_; intro pb hpb; (try simp only [hupd_none'] at hpb); (repeat rcases hpb with ⟨⟨hpx, hpy⟩, hpb⟩)) | with_reducible refine need ?_ | ((with_reducible first | apply frk0 | apply frk1 | apply frk2 | apply frk3 | apply frk4 | apply frk5 | apply frk6 | apply frk7 | apply frk8 | apply frk9) <;> intro h <;> try (exfalso; omega)) | with_reducible refine quiet_and ?_ ?_ | with_reducible refine awp_drawnA mixed (by decide +kernel) ?_ | ((fail_if_success with_reducible refine stp ?_); simp -implicitDefEqProofs only [go_sem, Nat.reduceEqDiff, Nat.reduceAdd, Nat.reduceLT, Nat.reduceMul, Nat.reduceSub, Nat.reduceLeDiff, ↓reduceIte, reduceCtorEq, ↓String.reduceEq, String.reduceNe, Int.reduceToNat, Int.reduceLT, Int.reduceLE, Int.reduceGT, Int.reduceGE, Int.reduceEq, Int.reduceNe, Int.reduceBEq, Int.reduceBNe, Int.reduceAdd, Int.reduceSub, Int.reduceMul, Int.reduceNeg,  *]))
        exact ⟨_, Sub.refl _, by rw [if_neg HX.out], rfl⟩
    · have HZ := Hid.mk hx
      clear hx
      by_cases h : y = 0
      · have hb0 : (y != 0) = false := by simpa using h
        have HX := Hid.mk h
        clear h
        repeat' (first | exact tf0 ‹_› | exact tf1 ‹_› | exact False.elim ‹_› | (with_reducible refine Al.intro ?_; intro pb hpb; (try simp only [hupd_none'] at hpb); (repeat rcases hpb with ⟨⟨hpx, hpy⟩, hpb⟩)) | with_reducible refine need ?_ | ((with_reducible first | apply frk0 | apply frk1 | apply frk2 | apply frk3 | apply frk4 | apply frk5 | apply frk6 | apply frk7 | apply frk8 | apply frk9) <;> intro h <;> try (exfalso; omega)) | with_reducible refine quiet_and ?_ ?_ | with_reducible refine awp_drawnA mixed (by decide +kernel) ?_ | ((fail_if_success with_reducible refine stp ?_); simp -implicitDefEqProofs only [go_sem, Nat.reduceEqDiff, Nat.reduceAdd, Nat.reduceLT, Nat.reduceMul, Nat.reduceSub, Nat.reduceLeDiff, ↓reduceIte, reduceCtorEq, ↓String.reduceEq, String.reduceNe, Int.reduceToNat, Int.reduceLT, Int.reduceLE, Int.reduceGT, Int.reduceGE, Int.reduceEq, Int.reduceNe, Int.reduceBEq, Int.reduceBNe, Int.reduceAdd, Int.reduceSub, Int.reduceMul, Int.reduceNeg,  *]))
        exact Again.intro ⟨0, by decide, _, Sub.refl _, rfl, (by first | (simp only [upd, put, Nat.reduceEqDiff, ↓reduceIte, t3]; done) | (simp [upd, put, t3]; done) | rfl | (simp [upd, put, t3]; rfl)), (by first | (simp only [upd, put, Nat.reduceEqDiff, ↓reduceIte, t6]; done) | (simp [upd, put, t6]; done) | rfl | (simp [upd, put, t6]; rfl)), (by first | (simp only [upd, put, Nat.reduceEqDiff, ↓reduceIte, t7]; done) | (simp [upd, put, t7]; done) | rfl | (simp [upd, put, t7]; rfl)), .inr (.inr ⟨rfl, HZ.out, HX.out, ttt⟩)⟩
      · have hb0 : (y != 0) = true := by simpa using h
        have HX := Hid.mk h
        clear h
        repeat' (first | exact tf0 ‹_› | exact tf1 ‹_› | exact False.elim ‹_› | (with_reducible refine Al.intro ?_; intro pb hpb; (try simp only [hupd_none'] at hpb); (repeat rcases hpb with ⟨⟨hpx, hpy⟩, hpb⟩)) | with_reducible refine need ?_ | ((with_reducible first | apply frk0 | apply frk1 | apply frk2 | apply frk3 | apply frk4 | apply frk5 | apply frk6 | apply frk7 | apply frk8 | apply frk9) <;> intro h <;> try (exfalso; omega)) | with_reducible refine quiet_and ?_ ?_ | with_reducible refine awp_drawnA mixed (by decide +kernel) ?_ | ((fail_if_success with_reducible refine stp ?_); simp -implicitDefEqProofs only [go_sem, Nat.reduceEqDiff, Nat.reduceAdd, Nat.reduceLT, Nat.reduceMul, Nat.reduceSub, Nat.reduceLeDiff, ↓reduceIte, reduceCtorEq, ↓String.reduceEq, String.reduceNe, Int.reduceToNat, Int.reduceLT, Int.reduceLE, Int.reduceGT, Int.reduceGE, Int.reduceEq, Int.reduceNe, Int.reduceBEq, Int.reduceBNe, Int.reduceAdd, Int.reduceSub, Int.reduceMul, Int.reduceNeg,  *]))
        exact ⟨_, Sub.refl _, by rw [if_pos HZ.out], rfl⟩
    · have HZ := Hid.mk (And.intro hx hy)
      clear hx hy
      repeat' (first | exact tf0 ‹_› | exact tf1 ‹_› | exact False.elim ‹_› | (with_reducible refine Al.intro ?_; intro pb hpb; (try simp only [hupd_none'] at hpb); (repeat rcases hpb with ⟨⟨hpx, hpy⟩, hpb⟩)) | with_reducible refine need ?_ | ((with_reducible first | apply frk0 | apply frk1 | apply frk2 | apply frk3 | apply frk4 | apply frk5 | apply frk6 | apply frk7 | apply frk8 | apply frk9) <;> intro h <;> try (exfalso; omega)) | with_reducible refine quiet_and ?_ ?_ | with_reducible refine awp_drawnA mixed (by decide +kernel) ?_ | ((fail_if_success with_reducible refine stp ?_); simp -implicitDefEqProofs only [go_sem, Nat.reduceEqDiff, Nat.reduceAdd, Nat.reduceLT, Nat.reduceMul, Nat.reduceSub, Nat.reduceLeDiff, ↓reduceIte, reduceCtorEq, ↓String.reduceEq, String.reduceNe, Int.reduceToNat, Int.reduceLT, Int.reduceLE, Int.reduceGT, Int.reduceGE, Int.reduceEq, Int.reduceNe, Int.reduceBEq, Int.reduceBNe, Int.reduceAdd, Int.reduceSub, Int.reduceMul, Int.reduceNeg,  *]))
      exact Again.intro ⟨rfl, HZ.out.1, HZ.out.2, (by first | (simp only [upd, put, Nat.reduceEqDiff, ↓reduceIte, t3]; done) | (simp [upd, put, t3]; done) | rfl | (simp [upd, put, t3]; rfl))⟩
  · rintro ts m' ⟨hm, hx, hy, t3⟩
    subst m'
    have HZ := Hid.mk (And.intro hx hy)
    clear hx hy
    repeat' (first | exact tf0 ‹_› | exact tf1 ‹_› | exact False.elim ‹_› | (with_reducible refine Al.intro ?_; intro pb hpb; (try simp only [hupd_none'] at hpb); (repeat rcases hpb with ⟨⟨hpx, hpy⟩, hpb⟩)) | with_reducible refine need ?_ | ((with_reducible first | apply frk0 | apply frk1 | apply frk2 | apply frk3 | apply frk4 | apply frk5 | apply frk6 | apply frk7 | apply frk8 | apply frk9) <;> intro h <;> try (exfalso; omega)) | with_reducible refine quiet_and ?_ ?_ | with_reducible refine awp_drawnA mixed (by decide +kernel) ?_ | ((fail_if_success with_reducible refine stp ?_); simp -implicitDefEqProofs only [go_sem, Nat.reduceEqDiff, Nat.reduceAdd, Nat.reduceLT, Nat.reduceMul, Nat.reduceSub, Nat.reduceLeDiff, ↓reduceIte, reduceCtorEq, ↓String.reduceEq, String.reduceNe, Int.reduceToNat, Int.reduceLT, Int.reduceLE, Int.reduceGT, Int.reduceGE, Int.reduceEq, Int.reduceNe, Int.reduceBEq, Int.reduceBNe, Int.reduceAdd, Int.reduceSub, Int.reduceMul, Int.reduceNeg,  *]))
    exact ⟨_, Sub.refl _, by rw [if_pos HZ.out.1, HZ.out.2], rfl⟩
/-- How many a stream missed. -/
def missF (L : List Ntd) (id : Int) : Int := (rowOf (pId id) L).2.1.2.2.2.2.2
set_option maxHeartbeats 1000000 in
theorem miss_spec (G : Nat → AVal) (T : Tab) (C : List Stm) (L : List Ntd) (s : Stm) (hs : s ∈ C) (p : Nat) (m : Heap) (hr : Rep T C L m) (hp : m p = some (.cells [.ptr T.tb 0] 1)) : CallWP Tryz.prog G 51 [.agg (encSc s), .ptr p 0] m fun w m' => w = .int .i64 (missF L s.1) ∧ m' = m := by
  obtain ⟨tb, v, rm, fm, rb⟩ := T
  have ktb := hr.tab
  obtain ⟨bsR, clR, krm⟩ := hr.rows
  simp only at ktb krm hp
  have hg := mget_rows (rb := rb) ⟨s, hs, rfl⟩
  have krb := hr.row s hs
  simp only at krb
  generalize rowOf pAll L = r0 at *
  obtain ⟨tk, ⟨f0, f1, f2, f3, f4, f5⟩, wo, be, so⟩ := r0
  simp only [rowB, rcel, List.cons_append, List.nil_append] at ktb
  have hmf : missF L s.1 = (rowOf (pId s.1) L).2.1.2.2.2.2.2 := rfl
  generalize rowOf (pId s.1) L = r1 at *
  obtain ⟨uk, ⟨g0, g1, g2, g3, g4, g5⟩, uo, ue, us⟩ := r1
  simp only [rowA, rcel] at krb
  simp only at hmf
  have HM := Hid.mk hmf
  have frt : ∀ c, m c = none → (tb = c) = False := fun c h => by rw [eq_iff_iff, iff_false]; exact seenB ktb h
  have frr : ∀ c, m c = none → (rm = c) = False := fun c h => by rw [eq_iff_iff, iff_false]; exact seenB krm h
  have frb : ∀ c, m c = none → (rb s.1 = c) = False := fun c h => by rw [eq_iff_iff, iff_false]; exact seenB krb h
  have frp : ∀ c, m c = none → (p = c) = False := fun c h => by rw [eq_iff_iff, iff_false]; exact seenB hp h
  obtain ⟨q0, q1, q2, q3, q4, q5, q6⟩ := s
  simp only at krb hg frb HM
  clear hr hs hmf
  refine callWP_body Tryz.func51 rfl (N := 16) rfl (rs := [.tmp 3]) rfl en_51 (of_decide_eq_true rfl) ?_
  repeat' (first | exact tf0 ‹_› | exact tf1 ‹_› | exact False.elim ‹_› | (with_reducible refine Al.intro ?_; intro pb hpb; (try simp only [hupd_none'] at hpb); (repeat rcases hpb with ⟨⟨hpx, hpy⟩, hpb⟩)) | with_reducible refine need ?_ | ((with_reducible first | apply frk0 | apply frk1 | apply frk2 | apply frk3 | apply frk4 | apply frk5 | apply frk6 | apply frk7 | apply frk8 | apply frk9) <;> intro h <;> try (exfalso; omega)) | with_reducible refine quiet_and ?_ ?_ | with_reducible refine awp_drawnA mixed (by decide +kernel) ?_ | ((fail_if_success with_reducible refine stp ?_); simp -implicitDefEqProofs only [go_sem, Nat.reduceEqDiff, Nat.reduceAdd, Nat.reduceLT, Nat.reduceMul, Nat.reduceSub, Nat.reduceLeDiff, ↓reduceIte, reduceCtorEq, ↓String.reduceEq, String.reduceNe, Int.reduceToNat, Int.reduceLT, Int.reduceLE, Int.reduceGT, Int.reduceGE, Int.reduceEq, Int.reduceNe, Int.reduceBEq, Int.reduceBNe, Int.reduceAdd, Int.reduceSub, Int.reduceMul, Int.reduceNeg,  encSc, *]))
  refine ⟨m, (by (repeat refine Sub.fresh ?_ (by assumption)); exact Sub.refl _), ?_, rfl⟩
  rw [HM.out]
end Go.Proofs.YtdckcophbmnjjaaGreatDoor
namespace Go.Proofs.YtdckcophbmnjjaaGreatDoor
open Go Go.Proofs.YtdckcophbmnjjaaGreatDoor.Ab
open Go.Proofs (Tryz.prog)
set_option maxRecDepth 100000
/-- Which of two comes first: who missed more, then by number. -/
def cmpW (L : List Ntd) (a b : Stm) : Int := if cmpI (missF L b.1) (missF L a.1) = 0 then cmpI a.1 b.1 else cmpI (missF L b.1) (missF L a.1)
theorem stab_sub2 {m M m3 : Heap} (hM : Sub m M) (hst : Stays (fun c => m c ≠ none) M m3) : Sub m m3 := fun c x hx => hst c x (show m c ≠ none by rw [hx]; simp) (hM c x hx)
set_option maxHeartbeats 2000000 in
theorem cmpW_spec (G : Nat → AVal) (T : Tab) (C : List Stm) (L : List Ntd) (a b : Stm) (ha : a ∈ C) (hb : b ∈ C) (p q : Nat) (m : Heap) (hr : Rep T C L m) (hp : m p = some (.cells [.ptr T.tb 0] 1)) (hq : m q = some (.cells [.func (.func 51) [] [.ptr p 0]] 1)) :
    CallWP Tryz.prog G 53 [.agg (encSc a), .agg (encSc b), .ptr q 0] m fun w m' => w = .int .i64 (cmpW L a b) ∧ m' = m := by
  have HA : Hid (∀ m', Sub m m' → CallWP Tryz.prog G 51 [.agg (encSc a), .ptr p 0] m' fun w m2 => w = .int .i64 (missF L a.1) ∧ m2 = m') := .mk (fun m' hs => miss_spec G T C L a ha p m' (hr.into hs) (hs _ _ hp))
  have HB : Hid (∀ m', Sub m m' → CallWP Tryz.prog G 51 [.agg (encSc b), .ptr p 0] m' fun w m2 => w = .int .i64 (missF L b.1) ∧ m2 = m') := .mk (fun m' hs => miss_spec G T C L b hb p m' (hr.into hs) (hs _ _ hp))
  obtain ⟨x, hx⟩ : ∃ x, missF L a.1 = x := ⟨_, rfl⟩
  obtain ⟨y, hy⟩ : ∃ y, missF L b.1 = y := ⟨_, rfl⟩
  rw [hx] at HA
  rw [hy] at HB
  obtain ⟨c1, hc1⟩ : ∃ c, cmpI y x = c := ⟨_, rfl⟩
  obtain ⟨c2, hc2⟩ : ∃ c, cmpI a.1 b.1 = c := ⟨_, rfl⟩
  have HC1 := Hid.mk (compare_spec G y x)
  have HC2 := Hid.mk (compare_spec G a.1 b.1)
  rw [hc1] at HC1
  rw [hc2] at HC2
  have HW := Hid.mk (show cmpW L a b = if c1 = 0 then c2 else c1 by unfold cmpW; rw [hx, hy, hc1, hc2])
  have frq : ∀ c, m c = none → (q = c) = False := fun c h => by rw [eq_iff_iff, iff_false]; exact seenB hq h
  have frq2 : ∀ c, m c = none → (c = q) = False := fun c h => by rw [eq_iff_iff, iff_false]; exact Ne.symm (seenB hq h)
  obtain ⟨a0, a1, a2, a3, a4, a5, a6⟩ := a
  obtain ⟨b0, b1, b2, b3, b4, b5, b6⟩ := b
  simp only at HC2
  clear ha hb hr hp hx hy hc1 hc2
  refine callWP_body Tryz.func53 rfl (N := 20) rfl (rs := [.tmp 5]) rfl en_53 (of_decide_eq_true rfl) ?_
  repeat' (first | exact tf0 ‹_› | exact tf1 ‹_› | exact False.elim ‹_› | (with_reducible refine Al.intro ?_; intro pb hpb; (try simp only [hupd_none'] at hpb); (repeat rcases hpb with ⟨⟨hpx, hpy⟩, hpb⟩)) | with_reducible refine need ?_ | ((with_reducible first | apply frk0 | apply frk1 | apply frk2 | apply frk3 | apply frk4 | apply frk5 | apply frk6 | apply frk7 | apply frk8 | apply frk9) <;> intro h <;> try (exfalso; omega)) | with_reducible refine quiet_and ?_ ?_ | with_reducible refine awp_drawnA mixed (by decide +kernel) ?_ | ((fail_if_success with_reducible refine stp ?_); simp -implicitDefEqProofs only [go_sem, Nat.reduceEqDiff, Nat.reduceAdd, Nat.reduceLT, Nat.reduceMul, Nat.reduceSub, Nat.reduceLeDiff, ↓reduceIte, reduceCtorEq, ↓String.reduceEq, String.reduceNe, Int.reduceToNat, Int.reduceLT, Int.reduceLE, Int.reduceGT, Int.reduceGE, Int.reduceEq, Int.reduceNe, Int.reduceBEq, Int.reduceBNe, Int.reduceAdd, Int.reduceSub, Int.reduceMul, Int.reduceNeg,  encSc, *]))
  refine awp_drawnE [(0, .q), (1, .q), (3, .q), (4, .q), (7, .q), (9, .q), (8, .q), (10, .q), (2, .k), (5, .k), (6, .k), (11, .k), (12, .q), (13, .e), (14, .q)] (fun k => match k with | 2 => .int .i64 y | 5 => .int .i64 x | 6 => .int .i64 c1 | 11 => .int .i64 c2 | _ => .undef) (fun c => m c ≠ none) (fun _ _ => False) mixed (by decide +kernel) ?_
  repeat' (first | exact tf0 ‹_› | exact tf1 ‹_› | exact False.elim ‹_› | (with_reducible refine Al.intro ?_; intro pb hpb; (try simp only [hupd_none'] at hpb); (repeat rcases hpb with ⟨⟨hpx, hpy⟩, hpb⟩)) | with_reducible refine need ?_ | ((with_reducible first | apply frk0 | apply frk1 | apply frk2 | apply frk3 | apply frk4 | apply frk5 | apply frk6 | apply frk7 | apply frk8 | apply frk9) <;> intro h <;> try (exfalso; omega)) | with_reducible refine quiet_and ?_ ?_ | with_reducible refine awp_drawnA mixed (by decide +kernel) ?_ | ((fail_if_success with_reducible refine stp ?_); simp -implicitDefEqProofs only [go_sem, Nat.reduceEqDiff, Nat.reduceAdd, Nat.reduceLT, Nat.reduceMul, Nat.reduceSub, Nat.reduceLeDiff, ↓reduceIte, reduceCtorEq, ↓String.reduceEq, String.reduceNe, Int.reduceToNat, Int.reduceLT, Int.reduceLE, Int.reduceGT, Int.reduceGE, Int.reduceEq, Int.reduceNe, Int.reduceBEq, Int.reduceBNe, Int.reduceAdd, Int.reduceSub, Int.reduceMul, Int.reduceNeg,  encSc, *]))
  · exact fun m3 hst => HB.out m3 (stab_sub2 (by (repeat refine Sub.fresh ?_ (by assumption)); exact Sub.refl _) hst)
  · exact fun m3 hst => HA.out m3 (stab_sub2 (by (repeat refine Sub.fresh ?_ (by assumption)); exact Sub.refl _) hst)
  · exact fun m3 _ => HC1.out m3
  · exact fun m3 _ => HC2.out m3
  refine CallWP.to (or_spec G c1 c2 _ _ (by rw [hupd_at, if_pos rfl])) ?_
  rw [← HW.out]
  repeat' (first | exact tf0 ‹_› | exact tf1 ‹_› | exact False.elim ‹_› | (with_reducible refine Al.intro ?_; intro pb hpb; (try simp only [hupd_none'] at hpb); (repeat rcases hpb with ⟨⟨hpx, hpy⟩, hpb⟩)) | with_reducible refine need ?_ | ((with_reducible first | apply frk0 | apply frk1 | apply frk2 | apply frk3 | apply frk4 | apply frk5 | apply frk6 | apply frk7 | apply frk8 | apply frk9) <;> intro h <;> try (exfalso; omega)) | with_reducible refine quiet_and ?_ ?_ | with_reducible refine awp_drawnA mixed (by decide +kernel) ?_ | ((fail_if_success with_reducible refine stp ?_); simp -implicitDefEqProofs only [go_sem, Nat.reduceEqDiff, Nat.reduceAdd, Nat.reduceLT, Nat.reduceMul, Nat.reduceSub, Nat.reduceLeDiff, ↓reduceIte, reduceCtorEq, ↓String.reduceEq, String.reduceNe, Int.reduceToNat, Int.reduceLT, Int.reduceLE, Int.reduceGT, Int.reduceGE, Int.reduceEq, Int.reduceNe, Int.reduceBEq, Int.reduceBNe, Int.reduceAdd, Int.reduceSub, Int.reduceMul, Int.reduceNeg,  *]))
  exact ⟨m, (by (repeat refine Sub.fresh ?_ (by assumption)); exact Sub.refl _), rfl, rfl⟩
/-- The first one of those that come first. -/
def minW (L : List Ntd) (C : List Stm) : Stm := C.tail.foldl (fun a s => if cmpW L s a < 0 then s else a) (C.getD 0 default)
def minWn (L : List Ntd) (C : List Stm) (i : Nat) : Stm := ((C.take i).tail).foldl (fun a s => if cmpW L s a < 0 then s else a) (C.getD 0 default)
theorem minWn_step (L : List Ntd) (C : List Stm) (i : Nat) (h0 : 1 ≤ i) (h : i < C.length) : minWn L C (i + 1) = if cmpW L (C.getD i default) (minWn L C i) < 0 then C.getD i default else minWn L C i := by
  unfold minWn
  rw [take_one C i h, List.tail_append_of_ne_nil (fun e => by have h2 := congrArg List.length e; rw [List.length_take, List.length_nil] at h2; omega), List.foldl_append]
  rfl
theorem foldW_mem (L : List Ntd) (C : List Stm) : ∀ (D : List Stm) (a : Stm), a ∈ C → (∀ s ∈ D, s ∈ C) → D.foldl (fun a s => if cmpW L s a < 0 then s else a) a ∈ C
  | [], _, h, _ => h
  | d :: t, a, h, hd => by
    rw [List.foldl_cons]
    refine foldW_mem L C t _ ?_ (fun s hs => hd s (List.mem_cons_of_mem _ hs))
    split
    · exact hd d (by simp)
    · exact h
theorem minWn_mem (L : List Ntd) (C : List Stm) (i : Nat) (h0 : 0 < C.length) : minWn L C i ∈ C :=
  foldW_mem L C _ _ (getD_mem C 0 h0) (fun s hs => List.mem_of_mem_take (List.mem_of_mem_tail hs))
theorem minWn_all (L : List Ntd) (C : List Stm) : minWn L C C.length = minW L C := by unfold minWn minW; rw [List.take_length]
theorem minWn_one (L : List Ntd) (C : List Stm) (h : 0 < C.length) : minWn L C 1 = C.getD 0 default := by
  unfold minWn
  have : (C.take 1).tail = [] := by
    cases C with
    | nil => simp at h
    | cons a t => simp
  rw [this]; rfl
set_option maxHeartbeats 4000000 in
theorem minW_spec (G : Nat → AVal) (T : Tab) (C : List Stm) (L : List Ntd) (hC : C.length ≤ 1000) (h0 : 0 < C.length) (p q : Nat) (m : Heap) (hr : Rep T C L m) (hp : m p = some (.cells [.ptr T.tb 0] 1)) (hq : m q = some (.cells [.func (.func 51) [] [.ptr p 0]] 1)) :
    CallWP Tryz.prog G 52 [T.v, .func (.func 53) [] [.ptr q 0]] m fun w m' => w = .agg (encSc (minW L C)) ∧ m' = m := by
  have hcm : ∃ b pre post N cap, T.v = .slice b (pre : List AVal).length C.length cap ∧ m b = some (.cells (pre ++ (C.flatMap encSc ++ post)) N) := by
    rcases hr.str with ⟨_, h2⟩ | ⟨b, blk, hb, pre, post, N, cap, h1, h2, _⟩
    · rw [h2] at h0; simp at h0
    · exact ⟨b, pre, post, N, cap, h1, by rw [hb, h2]⟩
  obtain ⟨b, pre, post, N, cap, hv, hb⟩ := hcm
  rw [hv]
  obtain ⟨LL, hLL⟩ : ∃ z, C.length = z := ⟨_, rfl⟩
  rw [hLL] at hC h0
  have HH := Hid.mk (And.intro hr (And.intro hp (And.intro hq hLL)))
  obtain ⟨x, hx⟩ : ∃ x, C.getD 0 default = x := ⟨_, rfl⟩
  have g0 := sm_at C pre post 0 (by omega) x hx
  have l1 := sm_len C pre post 0 (by omega)
  rw [Nat.zero_mul, Nat.add_zero] at g0 l1
  have lt1 : ¬ (LL : Int) < 1 := by omega
  have lt2 : (0 : Int) < (LL : Int) := by omega
  have frb : ∀ c, m c = none → (b = c) = False := fun c h => by rw [eq_iff_iff, iff_false]; exact seenB hb h
  rw [hLL]
  have HX := Hid.mk hx
  clear hr hp hq hLL hx hv
  refine callWP_body Tryz.func52 rfl (N := 33) rfl (rs := [.cell 4 48]) rfl en_52 (of_decide_eq_true rfl) ?_
  repeat' (first | exact tf0 ‹_› | exact tf1 ‹_› | exact False.elim ‹_› | (with_reducible refine Al.intro ?_; intro pb hpb; (try simp only [hupd_none'] at hpb); (repeat rcases hpb with ⟨⟨hpx, hpy⟩, hpb⟩)) | with_reducible refine need ?_ | ((with_reducible first | apply frk0 | apply frk1 | apply frk2 | apply frk3 | apply frk4 | apply frk5 | apply frk6 | apply frk7 | apply frk8 | apply frk9) <;> intro h <;> try (exfalso; omega)) | with_reducible refine quiet_and ?_ ?_ | with_reducible refine awp_drawnA mixed (by decide +kernel) ?_ | ((fail_if_success with_reducible refine stp ?_); simp -implicitDefEqProofs only [go_sem, Nat.reduceEqDiff, Nat.reduceAdd, Nat.reduceLT, Nat.reduceMul, Nat.reduceSub, Nat.reduceLeDiff, ↓reduceIte, reduceCtorEq, ↓String.reduceEq, String.reduceNe, Int.reduceToNat, Int.reduceLT, Int.reduceLE, Int.reduceGT, Int.reduceGE, Int.reduceEq, Int.reduceNe, Int.reduceBEq, Int.reduceBNe, Int.reduceAdd, Int.reduceSub, Int.reduceMul, Int.reduceNeg,  encSc, *]))
  rename_i p4 e4
  have HE := Hid.mk (And.intro e4 hpb)
  obtain ⟨p5, e5⟩ : ∃ p, p = pb := ⟨_, rfl⟩
  subst e5
  clear e4 hpb
  refine awp_loopP 0 (fun ts m' => ts 4 = .ptr p4 0 ∧ ts 5 = .ptr p5 0 ∧ m' = hupd (hupd m p4 (.cells (encSc (0, 0, 0, 0, 0, 0, 0)) 7)) p5 (.cells (encSc (minW L C)) 7))
    (fun n ts m' => ∃ (i : Nat) (w : Stm), Hid (n = LL - i ∧ 1 ≤ i ∧ i ≤ LL ∧ w = minWn L C i) ∧ ts 0 = .slice b pre.length LL cap ∧ ts 1 = .func (.func 53) [] [.ptr q 0] ∧ ts 4 = .ptr p4 0 ∧ ts 5 = .ptr p5 0 ∧ ts 6 = .int .i64 (i : Nat) ∧ m' = hupd (hupd m p4 (.cells (encSc (0, 0, 0, 0, 0, 0, 0)) 7)) p5 (.cells (encSc w) 7)) (LL - 1)
    ⟨1, x, .mk ⟨rfl, Nat.le_refl _, h0, ?_⟩, ttt, ttt, ttt, ttt, ttt, rfl⟩ ?_ ?_
  · rw [minWn_one L C (by have := HH.out.2.2.2; omega), HX.out]
  · rintro n ts m' ⟨i, w, H, t0, t1, t4, t5, t6, hm⟩
    subst m'
    by_cases hi : i < LL
    · have lt : (i : Int) < (LL : Int) := by omega
      have hiC : i < C.length := by have := HH.out.2.2.2; omega
      obtain ⟨y, hy⟩ : ∃ y, C.getD i default = y := ⟨_, rfl⟩
      have g3 := sm_at C pre post i hiC y hy
      have l3 := sm_len C pre post i hiC
      have w1 : IntKind.i64.wrap ((i : Int) + 1) = ((i + 1 : Nat) : Int) := by rw [wrap_i64 (by omega) (by omega)]; omega
      have hst := minWn_step L C i H.out.2.1 hiC
      rw [hy, ← H.out.2.2.2] at hst
      have hwC := minWn_mem L C i (by omega)
      rw [← H.out.2.2.2] at hwC
      have hyC := getD_mem C i hiC
      rw [hy] at hyC
      have hsub : Sub m (hupd (hupd m p4 (.cells (encSc (0, 0, 0, 0, 0, 0, 0)) 7)) p5 (.cells (encSc w) 7)) := ((Sub.refl _).fresh HE.out.1).fresh HE.out.2
      have HC := Hid.mk (cmpW_spec G T C L y w hyC hwC p q _ (HH.out.1.into hsub) (hsub _ _ HH.out.2.1) (hsub _ _ HH.out.2.2.1))
      obtain ⟨c, hc⟩ : ∃ c, cmpW L y w = c := ⟨_, rfl⟩
      rw [hc] at HC hst
      have HS := Hid.mk hst
      have nb4 : b ≠ p4 := seenB hb HE.out.1
      have nb5 : b ≠ p5 := seenB hb HE.out.2
      clear hiC hy hst hwC hyC hsub hc
      by_cases hneg : c < 0
      · obtain ⟨w0, w10, w2, w3, w4, w5, w6⟩ := w
        simp only [encSc] at HC
        repeat' (first | exact tf0 ‹_› | exact tf1 ‹_› | exact False.elim ‹_› | (with_reducible refine Al.intro ?_; intro pb hpb; (try simp only [hupd_none'] at hpb); (repeat rcases hpb with ⟨⟨hpx, hpy⟩, hpb⟩)) | with_reducible refine need ?_ | ((with_reducible first | apply frk0 | apply frk1 | apply frk2 | apply frk3 | apply frk4 | apply frk5 | apply frk6 | apply frk7 | apply frk8 | apply frk9) <;> intro h <;> try (exfalso; omega)) | with_reducible refine quiet_and ?_ ?_ | with_reducible refine awp_drawnA mixed (by decide +kernel) ?_ | ((fail_if_success with_reducible refine stp ?_); simp -implicitDefEqProofs only [go_sem, Nat.reduceEqDiff, Nat.reduceAdd, Nat.reduceLT, Nat.reduceMul, Nat.reduceSub, Nat.reduceLeDiff, ↓reduceIte, reduceCtorEq, ↓String.reduceEq, String.reduceNe, Int.reduceToNat, Int.reduceLT, Int.reduceLE, Int.reduceGT, Int.reduceGE, Int.reduceEq, Int.reduceNe, Int.reduceBEq, Int.reduceBNe, Int.reduceAdd, Int.reduceSub, Int.reduceMul, Int.reduceNeg,  encSc, *]))
        refine CallWP.to HC.out ?_
        repeat' (first | exact tf0 ‹_› | exact tf1 ‹_› | exact False.elim ‹_› | (with_reducible refine Al.intro ?_; intro pb hpb; (try simp only [hupd_none'] at hpb); (repeat rcases hpb with ⟨⟨hpx, hpy⟩, hpb⟩)) | with_reducible refine need ?_ | ((with_reducible first | apply frk0 | apply frk1 | apply frk2 | apply frk3 | apply frk4 | apply frk5 | apply frk6 | apply frk7 | apply frk8 | apply frk9) <;> intro h <;> try (exfalso; omega)) | with_reducible refine quiet_and ?_ ?_ | with_reducible refine awp_drawnA mixed (by decide +kernel) ?_ | ((fail_if_success with_reducible refine stp ?_); simp -implicitDefEqProofs only [go_sem, Nat.reduceEqDiff, Nat.reduceAdd, Nat.reduceLT, Nat.reduceMul, Nat.reduceSub, Nat.reduceLeDiff, ↓reduceIte, reduceCtorEq, ↓String.reduceEq, String.reduceNe, Int.reduceToNat, Int.reduceLT, Int.reduceLE, Int.reduceGT, Int.reduceGE, Int.reduceEq, Int.reduceNe, Int.reduceBEq, Int.reduceBNe, Int.reduceAdd, Int.reduceSub, Int.reduceMul, Int.reduceNeg,  encSc, *]))
        exact Again.intro ⟨LL - (i + 1), by have := H.out; omega, _, Sub.refl _, i + 1, y, .mk ⟨rfl, by omega, by omega, by rw [HS.out, if_pos hneg]⟩, (by first | (simp only [upd, put, Nat.reduceEqDiff, ↓reduceIte, t0]; done) | (simp [upd, put, t0]; done) | rfl | (simp [upd, put, t0]; rfl)), (by first | (simp only [upd, put, Nat.reduceEqDiff, ↓reduceIte, t1]; done) | (simp [upd, put, t1]; done) | rfl | (simp [upd, put, t1]; rfl)), (by first | (simp only [upd, put, Nat.reduceEqDiff, ↓reduceIte, t4]; done) | (simp [upd, put, t4]; done) | rfl | (simp [upd, put, t4]; rfl)), (by first | (simp only [upd, put, Nat.reduceEqDiff, ↓reduceIte, t5]; done) | (simp [upd, put, t5]; done) | rfl | (simp [upd, put, t5]; rfl)), ttt, rfl⟩
      · obtain ⟨w0, w10, w2, w3, w4, w5, w6⟩ := w
        simp only [encSc] at HC
        repeat' (first | exact tf0 ‹_› | exact tf1 ‹_› | exact False.elim ‹_› | (with_reducible refine Al.intro ?_; intro pb hpb; (try simp only [hupd_none'] at hpb); (repeat rcases hpb with ⟨⟨hpx, hpy⟩, hpb⟩)) | with_reducible refine need ?_ | ((with_reducible first | apply frk0 | apply frk1 | apply frk2 | apply frk3 | apply frk4 | apply frk5 | apply frk6 | apply frk7 | apply frk8 | apply frk9) <;> intro h <;> try (exfalso; omega)) | with_reducible refine quiet_and ?_ ?_ | with_reducible refine awp_drawnA mixed (by decide +kernel) ?_ | ((fail_if_success with_reducible refine stp ?_); simp -implicitDefEqProofs only [go_sem, Nat.reduceEqDiff, Nat.reduceAdd, Nat.reduceLT, Nat.reduceMul, Nat.reduceSub, Nat.reduceLeDiff, ↓reduceIte, reduceCtorEq, ↓String.reduceEq, String.reduceNe, Int.reduceToNat, Int.reduceLT, Int.reduceLE, Int.reduceGT, Int.reduceGE, Int.reduceEq, Int.reduceNe, Int.reduceBEq, Int.reduceBNe, Int.reduceAdd, Int.reduceSub, Int.reduceMul, Int.reduceNeg,  encSc, *]))
        refine CallWP.to HC.out ?_
        repeat' (first | exact tf0 ‹_› | exact tf1 ‹_› | exact False.elim ‹_› | (with_reducible refine Al.intro ?_; intro pb hpb; (try simp only [hupd_none'] at hpb); (repeat rcases hpb with ⟨⟨hpx, hpy⟩, hpb⟩)) | with_reducible refine need ?_ | ((with_reducible first | apply frk0 | apply frk1 | apply frk2 | apply frk3 | apply frk4 | apply frk5 | apply frk6 | apply frk7 | apply frk8 | apply frk9) <;> intro h <;> try (exfalso; omega)) | with_reducible refine quiet_and ?_ ?_ | with_reducible refine awp_drawnA mixed (by decide +kernel) ?_ | ((fail_if_success with_reducible refine stp ?_); simp -implicitDefEqProofs only [go_sem, Nat.reduceEqDiff, Nat.reduceAdd, Nat.reduceLT, Nat.reduceMul, Nat.reduceSub, Nat.reduceLeDiff, ↓reduceIte, reduceCtorEq, ↓String.reduceEq, String.reduceNe, Int.reduceToNat, Int.reduceLT, Int.reduceLE, Int.reduceGT, Int.reduceGE, Int.reduceEq, Int.reduceNe, Int.reduceBEq, Int.reduceBNe, Int.reduceAdd, Int.reduceSub, Int.reduceMul, Int.reduceNeg,  encSc, *]))
        exact Again.intro ⟨LL - (i + 1), by have := H.out; omega, _, Sub.refl _, i + 1, (w0, w10, w2, w3, w4, w5, w6), .mk ⟨rfl, by omega, by omega, by rw [HS.out, if_neg hneg]⟩, (by first | (simp only [upd, put, Nat.reduceEqDiff, ↓reduceIte, t0]; done) | (simp [upd, put, t0]; done) | rfl | (simp [upd, put, t0]; rfl)), (by first | (simp only [upd, put, Nat.reduceEqDiff, ↓reduceIte, t1]; done) | (simp [upd, put, t1]; done) | rfl | (simp [upd, put, t1]; rfl)), (by first | (simp only [upd, put, Nat.reduceEqDiff, ↓reduceIte, t4]; done) | (simp [upd, put, t4]; done) | rfl | (simp [upd, put, t4]; rfl)), (by first | (simp only [upd, put, Nat.reduceEqDiff, ↓reduceIte, t5]; done) | (simp [upd, put, t5]; done) | rfl | (simp [upd, put, t5]; rfl)), ttt, rfl⟩
    · have lt : ¬ (i : Int) < (LL : Int) := by omega
      have e : w = minW L C := by rw [H.out.2.2.2, ← minWn_all]; congr 1; have := H.out; have := HH.out.2.2.2; omega
      have HEQ := Hid.mk e
      clear e
      repeat' (first | exact tf0 ‹_› | exact tf1 ‹_› | exact False.elim ‹_› | (with_reducible refine Al.intro ?_; intro pb hpb; (try simp only [hupd_none'] at hpb); (repeat rcases hpb with ⟨⟨hpx, hpy⟩, hpb⟩)) | with_reducible refine need ?_ | ((with_reducible first | apply frk0 | apply frk1 | apply frk2 | apply frk3 | apply frk4 | apply frk5 | apply frk6 | apply frk7 | apply frk8 | apply frk9) <;> intro h <;> try (exfalso; omega)) | with_reducible refine quiet_and ?_ ?_ | with_reducible refine awp_drawnA mixed (by decide +kernel) ?_ | ((fail_if_success with_reducible refine stp ?_); simp -implicitDefEqProofs only [go_sem, Nat.reduceEqDiff, Nat.reduceAdd, Nat.reduceLT, Nat.reduceMul, Nat.reduceSub, Nat.reduceLeDiff, ↓reduceIte, reduceCtorEq, ↓String.reduceEq, String.reduceNe, Int.reduceToNat, Int.reduceLT, Int.reduceLE, Int.reduceGT, Int.reduceGE, Int.reduceEq, Int.reduceNe, Int.reduceBEq, Int.reduceBNe, Int.reduceAdd, Int.reduceSub, Int.reduceMul, Int.reduceNeg,  *]))
      exact Again.intro ⟨(by first | (simp only [upd, put, Nat.reduceEqDiff, ↓reduceIte, t4]; done) | (simp [upd, put, t4]; done) | rfl | (simp [upd, put, t4]; rfl)), (by first | (simp only [upd, put, Nat.reduceEqDiff, ↓reduceIte, t5]; done) | (simp [upd, put, t5]; done) | rfl | (simp [upd, put, t5]; rfl)), by rw [HEQ.out]⟩
  · rintro ts m' ⟨t4, t5, hm⟩
    subst m'
    obtain ⟨w, hw⟩ : ∃ w, minW L C = w := ⟨_, rfl⟩
    rw [hw]
    obtain ⟨w0, w10, w2, w3, w4, w5, w6⟩ := w
    repeat' (first | exact tf0 ‹_› | exact tf1 ‹_› | exact False.elim ‹_› | (with_reducible refine Al.intro ?_; intro pb hpb; (try simp only [hupd_none'] at hpb); (repeat rcases hpb with ⟨⟨hpx, hpy⟩, hpb⟩)) | with_reducible refine need ?_ | ((with_reducible first | apply frk0 | apply frk1 | apply frk2 | apply frk3 | apply frk4 | apply frk5 | apply frk6 | apply frk7 | apply frk8 | apply frk9) <;> intro h <;> try (exfalso; omega)) | with_reducible refine quiet_and ?_ ?_ | with_reducible refine awp_drawnA mixed (by decide +kernel) ?_ | ((fail_if_success with_reducible refine stp ?_); simp -implicitDefEqProofs only [go_sem, Nat.reduceEqDiff, Nat.reduceAdd, Nat.reduceLT, Nat.reduceMul, Nat.reduceSub, Nat.reduceLeDiff, ↓reduceIte, reduceCtorEq, ↓String.reduceEq, String.reduceNe, Int.reduceToNat, Int.reduceLT, Int.reduceLE, Int.reduceGT, Int.reduceGE, Int.reduceEq, Int.reduceNe, Int.reduceBEq, Int.reduceBNe, Int.reduceAdd, Int.reduceSub, Int.reduceMul, Int.reduceNeg,  encSc, *]))
    exact ⟨m, (by repeat refine Sub.fresh ?_ (by first | exact HE.out.1 | exact HE.out.2)
                  exact Sub.refl _), rfl, rfl⟩
end Go.Proofs.YtdckcophbmnjjaaGreatDoor
