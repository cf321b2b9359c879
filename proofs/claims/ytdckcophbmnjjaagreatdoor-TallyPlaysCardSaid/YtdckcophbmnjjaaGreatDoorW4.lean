/- A frame of a stream that comes at some time. An act's job. -/
import Derived.Test.YtdckcophbmnjjaaGreatDoorW2
set_option linter.all false
namespace Go.Proofs.YtdckcophbmnjjaaGreatDoor
open Go Go.Proofs.YtdckcophbmnjjaaGreatDoor.Ab
open Go.Proofs (Tryz.prog)
set_option maxRecDepth 100000
abbrev encJc (j : Jb) : List AVal := [.int .i64 j.1, .int .i64 j.2.1, .int .i64 j.2.2.1, .int .i64 j.2.2.2]
def encJ (j : Jb) : AVal := .agg (encJc j)
def jobS (s : Stm) (rel : Int) : Jb × Int := if rightS s = 0 then (if 0 ≤ rel ∧ rel ≤ 1125899906842624 then ((s.1, rel, rel + s.2.2.2.2.1, costS s), 0) else ((0, 0, 0, 0), 1)) else ((0, 0, 0, 0), rightS s)
set_option maxHeartbeats 2000000 in
theorem pjob_spec (G : Nat → AVal) (hG : DivOK G) (s : Stm) (rel : Int) : Ans G 26 [encS s, .int .i64 rel] (.tuple [encJ (jobS s rel).1, .int .i64 (jobS s rel).2]) := by
  intro m
  have HR := Hid.mk (pright_spec G s)
  have HC := Hid.mk (pcost_spec G hG s)
  obtain ⟨co, hco⟩ : ∃ c, costS s = c := ⟨_, rfl⟩
  rw [hco] at HC
  have HV := Hid.mk hco
  clear hG hco
  by_cases hr : rightS s = 0
  · have hin := (rightS_zero.1 hr).2.2.2.2
    rw [hr] at HR
    have HE := Hid.mk hr
    clear hr
    by_cases h0 : 0 ≤ rel
    · have h0' : ¬ rel < 0 := by omega
      by_cases h1 : rel ≤ 1125899906842624
      · have h1' : ¬ rel > 1125899906842624 := by omega
        have w1 : IntKind.i64.wrap (rel + s.2.2.2.2.1) = rel + s.2.2.2.2.1 := wrap_i64 (by omega) (by omega)
        have HX := Hid.mk (show jobS s rel = ((s.1, rel, rel + s.2.2.2.2.1, co), 0) by unfold jobS; rw [if_pos HE.out, if_pos ⟨h0, h1⟩, HV.out])
        clear hin h0 h1
        refine callWP_body Tryz.func26 rfl (N := 30) rfl (rs := [.cell 4 34, .tmp 5]) rfl en_26 (of_decide_eq_true rfl) ?_
        repeat' (first | exact tf0 ‹_› | exact tf1 ‹_› | exact False.elim ‹_› | (with_reducible refine Al.intro ?_; intro pb hpb; (try simp only [hupd_none'] at hpb); (repeat rcases hpb with ⟨⟨hpx, hpy⟩, hpb⟩)) | with_reducible refine need ?_ | ((with_reducible first | apply frk0 | apply frk1 | apply frk2 | apply frk3 | apply frk4 | apply frk5 | apply frk6 | apply frk7 | apply frk8 | apply frk9) <;> intro h <;> try (exfalso; omega)) | with_reducible refine quiet_and ?_ ?_ | with_reducible refine awp_drawnA mixed (by decide +kernel) ?_ | ((fail_if_success with_reducible refine stp ?_); simp -implicitDefEqProofs only [go_sem, Nat.reduceEqDiff, Nat.reduceAdd, Nat.reduceLT, Nat.reduceMul, Nat.reduceSub, Nat.reduceLeDiff, ↓reduceIte, reduceCtorEq, ↓String.reduceEq, String.reduceNe, Int.reduceToNat, Int.reduceLT, Int.reduceLE, Int.reduceGT, Int.reduceGE, Int.reduceEq, Int.reduceNe, Int.reduceBEq, Int.reduceBNe, Int.reduceAdd, Int.reduceSub, Int.reduceMul, Int.reduceNeg,  encS, encSc, *]))
        refine CallWP.to (HR.out _) ?_
        repeat' (first | exact tf0 ‹_› | exact tf1 ‹_› | exact False.elim ‹_› | (with_reducible refine Al.intro ?_; intro pb hpb; (try simp only [hupd_none'] at hpb); (repeat rcases hpb with ⟨⟨hpx, hpy⟩, hpb⟩)) | with_reducible refine need ?_ | ((with_reducible first | apply frk0 | apply frk1 | apply frk2 | apply frk3 | apply frk4 | apply frk5 | apply frk6 | apply frk7 | apply frk8 | apply frk9) <;> intro h <;> try (exfalso; omega)) | with_reducible refine quiet_and ?_ ?_ | with_reducible refine awp_drawnA mixed (by decide +kernel) ?_ | ((fail_if_success with_reducible refine stp ?_); simp -implicitDefEqProofs only [go_sem, Nat.reduceEqDiff, Nat.reduceAdd, Nat.reduceLT, Nat.reduceMul, Nat.reduceSub, Nat.reduceLeDiff, ↓reduceIte, reduceCtorEq, ↓String.reduceEq, String.reduceNe, Int.reduceToNat, Int.reduceLT, Int.reduceLE, Int.reduceGT, Int.reduceGE, Int.reduceEq, Int.reduceNe, Int.reduceBEq, Int.reduceBNe, Int.reduceAdd, Int.reduceSub, Int.reduceMul, Int.reduceNeg,  encS, encSc, *]))
        refine awp_drawnE [(0, .q), (2, .q), (3, .q), (4, .q), (7, .q), (1, .q), (5, .q), (6, .q), (8, .k), (9, .q), (10, .e), (11, .q)] (fun i => match i with | 8 => .int .i64 co | _ => .undef) (fun _ => False) (fun _ _ => False) rfl (by decide +kernel) ?_
        repeat' (first | exact tf0 ‹_› | exact tf1 ‹_› | exact False.elim ‹_› | (with_reducible refine Al.intro ?_; intro pb hpb; (try simp only [hupd_none'] at hpb); (repeat rcases hpb with ⟨⟨hpx, hpy⟩, hpb⟩)) | with_reducible refine need ?_ | ((with_reducible first | apply frk0 | apply frk1 | apply frk2 | apply frk3 | apply frk4 | apply frk5 | apply frk6 | apply frk7 | apply frk8 | apply frk9) <;> intro h <;> try (exfalso; omega)) | with_reducible refine quiet_and ?_ ?_ | with_reducible refine awp_drawnA mixed (by decide +kernel) ?_ | ((fail_if_success with_reducible refine stp ?_); simp -implicitDefEqProofs only [go_sem, Nat.reduceEqDiff, Nat.reduceAdd, Nat.reduceLT, Nat.reduceMul, Nat.reduceSub, Nat.reduceLeDiff, ↓reduceIte, reduceCtorEq, ↓String.reduceEq, String.reduceNe, Int.reduceToNat, Int.reduceLT, Int.reduceLE, Int.reduceGT, Int.reduceGE, Int.reduceEq, Int.reduceNe, Int.reduceBEq, Int.reduceBNe, Int.reduceAdd, Int.reduceSub, Int.reduceMul, Int.reduceNeg,  encS, encSc, *]))
        · exact fun m3 _ => HC.out m3
        exact ⟨_, (by (repeat refine Sub.fresh ?_ (by assumption)); exact Sub.refl _), by rw [HX.out]; rfl, rfl⟩
      · have h1' : rel > 1125899906842624 := by omega
        have HX := Hid.mk (show jobS s rel = ((0, 0, 0, 0), 1) by unfold jobS; rw [if_pos HE.out, if_neg (fun h => h1 h.2)])
        clear hin h0 h1
        refine callWP_body Tryz.func26 rfl (N := 30) rfl (rs := [.cell 4 34, .tmp 5]) rfl en_26 (of_decide_eq_true rfl) ?_
        repeat' (first | exact tf0 ‹_› | exact tf1 ‹_› | exact False.elim ‹_› | (with_reducible refine Al.intro ?_; intro pb hpb; (try simp only [hupd_none'] at hpb); (repeat rcases hpb with ⟨⟨hpx, hpy⟩, hpb⟩)) | with_reducible refine need ?_ | ((with_reducible first | apply frk0 | apply frk1 | apply frk2 | apply frk3 | apply frk4 | apply frk5 | apply frk6 | apply frk7 | apply frk8 | apply frk9) <;> intro h <;> try (exfalso; omega)) | with_reducible refine quiet_and ?_ ?_ | with_reducible refine awp_drawnA mixed (by decide +kernel) ?_ | ((fail_if_success with_reducible refine stp ?_); simp -implicitDefEqProofs only [go_sem, Nat.reduceEqDiff, Nat.reduceAdd, Nat.reduceLT, Nat.reduceMul, Nat.reduceSub, Nat.reduceLeDiff, ↓reduceIte, reduceCtorEq, ↓String.reduceEq, String.reduceNe, Int.reduceToNat, Int.reduceLT, Int.reduceLE, Int.reduceGT, Int.reduceGE, Int.reduceEq, Int.reduceNe, Int.reduceBEq, Int.reduceBNe, Int.reduceAdd, Int.reduceSub, Int.reduceMul, Int.reduceNeg,  encS, encSc, *]))
        refine CallWP.to (HR.out _) ?_
        repeat' (first | exact tf0 ‹_› | exact tf1 ‹_› | exact False.elim ‹_› | (with_reducible refine Al.intro ?_; intro pb hpb; (try simp only [hupd_none'] at hpb); (repeat rcases hpb with ⟨⟨hpx, hpy⟩, hpb⟩)) | with_reducible refine need ?_ | ((with_reducible first | apply frk0 | apply frk1 | apply frk2 | apply frk3 | apply frk4 | apply frk5 | apply frk6 | apply frk7 | apply frk8 | apply frk9) <;> intro h <;> try (exfalso; omega)) | with_reducible refine quiet_and ?_ ?_ | with_reducible refine awp_drawnA mixed (by decide +kernel) ?_ | ((fail_if_success with_reducible refine stp ?_); simp -implicitDefEqProofs only [go_sem, Nat.reduceEqDiff, Nat.reduceAdd, Nat.reduceLT, Nat.reduceMul, Nat.reduceSub, Nat.reduceLeDiff, ↓reduceIte, reduceCtorEq, ↓String.reduceEq, String.reduceNe, Int.reduceToNat, Int.reduceLT, Int.reduceLE, Int.reduceGT, Int.reduceGE, Int.reduceEq, Int.reduceNe, Int.reduceBEq, Int.reduceBNe, Int.reduceAdd, Int.reduceSub, Int.reduceMul, Int.reduceNeg,  encS, encSc, *]))
        exact ⟨_, (by (repeat refine Sub.fresh ?_ (by assumption)); exact Sub.refl _), by rw [HX.out]; rfl, rfl⟩
    · have h0' : rel < 0 := by omega
      have HX := Hid.mk (show jobS s rel = ((0, 0, 0, 0), 1) by unfold jobS; rw [if_pos HE.out, if_neg (fun h => h0 h.1)])
      clear hin h0
      refine callWP_body Tryz.func26 rfl (N := 30) rfl (rs := [.cell 4 34, .tmp 5]) rfl en_26 (of_decide_eq_true rfl) ?_
      repeat' (first | exact tf0 ‹_› | exact tf1 ‹_› | exact False.elim ‹_› | (with_reducible refine Al.intro ?_; intro pb hpb; (try simp only [hupd_none'] at hpb); (repeat rcases hpb with ⟨⟨hpx, hpy⟩, hpb⟩)) | with_reducible refine need ?_ | ((with_reducible first | apply frk0 | apply frk1 | apply frk2 | apply frk3 | apply frk4 | apply frk5 | apply frk6 | apply frk7 | apply frk8 | apply frk9) <;> intro h <;> try (exfalso; omega)) | with_reducible refine quiet_and ?_ ?_ | with_reducible refine awp_drawnA mixed (by decide +kernel) ?_ | ((fail_if_success with_reducible refine stp ?_); simp -implicitDefEqProofs only [go_sem, Nat.reduceEqDiff, Nat.reduceAdd, Nat.reduceLT, Nat.reduceMul, Nat.reduceSub, Nat.reduceLeDiff, ↓reduceIte, reduceCtorEq, ↓String.reduceEq, String.reduceNe, Int.reduceToNat, Int.reduceLT, Int.reduceLE, Int.reduceGT, Int.reduceGE, Int.reduceEq, Int.reduceNe, Int.reduceBEq, Int.reduceBNe, Int.reduceAdd, Int.reduceSub, Int.reduceMul, Int.reduceNeg,  encS, encSc, *]))
      refine CallWP.to (HR.out _) ?_
      repeat' (first | exact tf0 ‹_› | exact tf1 ‹_› | exact False.elim ‹_› | (with_reducible refine Al.intro ?_; intro pb hpb; (try simp only [hupd_none'] at hpb); (repeat rcases hpb with ⟨⟨hpx, hpy⟩, hpb⟩)) | with_reducible refine need ?_ | ((with_reducible first | apply frk0 | apply frk1 | apply frk2 | apply frk3 | apply frk4 | apply frk5 | apply frk6 | apply frk7 | apply frk8 | apply frk9) <;> intro h <;> try (exfalso; omega)) | with_reducible refine quiet_and ?_ ?_ | with_reducible refine awp_drawnA mixed (by decide +kernel) ?_ | ((fail_if_success with_reducible refine stp ?_); simp -implicitDefEqProofs only [go_sem, Nat.reduceEqDiff, Nat.reduceAdd, Nat.reduceLT, Nat.reduceMul, Nat.reduceSub, Nat.reduceLeDiff, ↓reduceIte, reduceCtorEq, ↓String.reduceEq, String.reduceNe, Int.reduceToNat, Int.reduceLT, Int.reduceLE, Int.reduceGT, Int.reduceGE, Int.reduceEq, Int.reduceNe, Int.reduceBEq, Int.reduceBNe, Int.reduceAdd, Int.reduceSub, Int.reduceMul, Int.reduceNeg,  encS, encSc, *]))
      exact ⟨_, (by (repeat refine Sub.fresh ?_ (by assumption)); exact Sub.refl _), by rw [HX.out]; rfl, rfl⟩
  · have HX := Hid.mk (show jobS s rel = ((0, 0, 0, 0), rightS s) by unfold jobS; rw [if_neg hr])
    obtain ⟨e, he⟩ : ∃ e, rightS s = e := ⟨_, rfl⟩
    rw [he] at HR HX hr
    have hb : (e != 0) = true := by simpa using hr
    clear hr he
    refine callWP_body Tryz.func26 rfl (N := 30) rfl (rs := [.cell 4 34, .tmp 5]) rfl en_26 (of_decide_eq_true rfl) ?_
    repeat' (first | exact tf0 ‹_› | exact tf1 ‹_› | exact False.elim ‹_› | (with_reducible refine Al.intro ?_; intro pb hpb; (try simp only [hupd_none'] at hpb); (repeat rcases hpb with ⟨⟨hpx, hpy⟩, hpb⟩)) | with_reducible refine need ?_ | ((with_reducible first | apply frk0 | apply frk1 | apply frk2 | apply frk3 | apply frk4 | apply frk5 | apply frk6 | apply frk7 | apply frk8 | apply frk9) <;> intro h <;> try (exfalso; omega)) | with_reducible refine quiet_and ?_ ?_ | with_reducible refine awp_drawnA mixed (by decide +kernel) ?_ | ((fail_if_success with_reducible refine stp ?_); simp -implicitDefEqProofs only [go_sem, Nat.reduceEqDiff, Nat.reduceAdd, Nat.reduceLT, Nat.reduceMul, Nat.reduceSub, Nat.reduceLeDiff, ↓reduceIte, reduceCtorEq, ↓String.reduceEq, String.reduceNe, Int.reduceToNat, Int.reduceLT, Int.reduceLE, Int.reduceGT, Int.reduceGE, Int.reduceEq, Int.reduceNe, Int.reduceBEq, Int.reduceBNe, Int.reduceAdd, Int.reduceSub, Int.reduceMul, Int.reduceNeg,  encS, encSc, *]))
    refine CallWP.to (HR.out _) ?_
    repeat' (first | exact tf0 ‹_› | exact tf1 ‹_› | exact False.elim ‹_› | (with_reducible refine Al.intro ?_; intro pb hpb; (try simp only [hupd_none'] at hpb); (repeat rcases hpb with ⟨⟨hpx, hpy⟩, hpb⟩)) | with_reducible refine need ?_ | ((with_reducible first | apply frk0 | apply frk1 | apply frk2 | apply frk3 | apply frk4 | apply frk5 | apply frk6 | apply frk7 | apply frk8 | apply frk9) <;> intro h <;> try (exfalso; omega)) | with_reducible refine quiet_and ?_ ?_ | with_reducible refine awp_drawnA mixed (by decide +kernel) ?_ | ((fail_if_success with_reducible refine stp ?_); simp -implicitDefEqProofs only [go_sem, Nat.reduceEqDiff, Nat.reduceAdd, Nat.reduceLT, Nat.reduceMul, Nat.reduceSub, Nat.reduceLeDiff, ↓reduceIte, reduceCtorEq, ↓String.reduceEq, String.reduceNe, Int.reduceToNat, Int.reduceLT, Int.reduceLE, Int.reduceGT, Int.reduceGE, Int.reduceEq, Int.reduceNe, Int.reduceBEq, Int.reduceBNe, Int.reduceAdd, Int.reduceSub, Int.reduceMul, Int.reduceNeg,  encS, encSc, *]))
    exact ⟨_, (by (repeat refine Sub.fresh ?_ (by assumption)); exact Sub.refl _), by rw [HX.out]; rfl, rfl⟩
set_option maxHeartbeats 2000000 in
theorem rjob_spec (G : Nat → AVal) (s : Stm) (rel : Int) : Ans G 19 [encS s, .int .i64 rel] (.tuple [encJ (jobS s rel).1, .int .i64 (jobS s rel).2]) := by
  intro m
  have HR := Hid.mk (sright_spec G s)
  have HC := Hid.mk (cost_spec G s)
  obtain ⟨co, hco⟩ : ∃ c, costS s = c := ⟨_, rfl⟩
  rw [hco] at HC
  have HV := Hid.mk hco
  clear hco
  by_cases hr : rightS s = 0
  · have hin := (rightS_zero.1 hr).2.2.2.2
    rw [hr] at HR
    have HE := Hid.mk hr
    clear hr
    by_cases h0 : 0 ≤ rel
    · have h0' : ¬ rel < 0 := by omega
      by_cases h1 : rel ≤ 1125899906842624
      · have h1' : ¬ rel > 1125899906842624 := by omega
        have w1 : IntKind.i64.wrap (rel + s.2.2.2.2.1) = rel + s.2.2.2.2.1 := wrap_i64 (by omega) (by omega)
        have HX := Hid.mk (show jobS s rel = ((s.1, rel, rel + s.2.2.2.2.1, co), 0) by unfold jobS; rw [if_pos HE.out, if_pos ⟨h0, h1⟩, HV.out])
        clear hin h0 h1
        refine callWP_body Tryz.func19 rfl (N := 30) rfl (rs := [.cell 4 34, .tmp 5]) rfl en_19 (of_decide_eq_true rfl) ?_
        repeat' (first | exact tf0 ‹_› | exact tf1 ‹_› | exact False.elim ‹_› | (with_reducible refine Al.intro ?_; intro pb hpb; (try simp only [hupd_none'] at hpb); (repeat rcases hpb with ⟨⟨hpx, hpy⟩, hpb⟩)) | with_reducible refine need ?_ | ((with_reducible first | apply frk0 | apply frk1 | apply frk2 | apply frk3 | apply frk4 | apply frk5 | apply frk6 | apply frk7 | apply frk8 | apply frk9) <;> intro h <;> try (exfalso; omega)) | with_reducible refine quiet_and ?_ ?_ | with_reducible refine awp_drawnA mixed (by decide +kernel) ?_ | ((fail_if_success with_reducible refine stp ?_); simp -implicitDefEqProofs only [go_sem, Nat.reduceEqDiff, Nat.reduceAdd, Nat.reduceLT, Nat.reduceMul, Nat.reduceSub, Nat.reduceLeDiff, ↓reduceIte, reduceCtorEq, ↓String.reduceEq, String.reduceNe, Int.reduceToNat, Int.reduceLT, Int.reduceLE, Int.reduceGT, Int.reduceGE, Int.reduceEq, Int.reduceNe, Int.reduceBEq, Int.reduceBNe, Int.reduceAdd, Int.reduceSub, Int.reduceMul, Int.reduceNeg,  encS, encSc, *]))
        refine CallWP.to (HR.out _) ?_
        repeat' (first | exact tf0 ‹_› | exact tf1 ‹_› | exact False.elim ‹_› | (with_reducible refine Al.intro ?_; intro pb hpb; (try simp only [hupd_none'] at hpb); (repeat rcases hpb with ⟨⟨hpx, hpy⟩, hpb⟩)) | with_reducible refine need ?_ | ((with_reducible first | apply frk0 | apply frk1 | apply frk2 | apply frk3 | apply frk4 | apply frk5 | apply frk6 | apply frk7 | apply frk8 | apply frk9) <;> intro h <;> try (exfalso; omega)) | with_reducible refine quiet_and ?_ ?_ | with_reducible refine awp_drawnA mixed (by decide +kernel) ?_ | ((fail_if_success with_reducible refine stp ?_); simp -implicitDefEqProofs only [go_sem, Nat.reduceEqDiff, Nat.reduceAdd, Nat.reduceLT, Nat.reduceMul, Nat.reduceSub, Nat.reduceLeDiff, ↓reduceIte, reduceCtorEq, ↓String.reduceEq, String.reduceNe, Int.reduceToNat, Int.reduceLT, Int.reduceLE, Int.reduceGT, Int.reduceGE, Int.reduceEq, Int.reduceNe, Int.reduceBEq, Int.reduceBNe, Int.reduceAdd, Int.reduceSub, Int.reduceMul, Int.reduceNeg,  encS, encSc, *]))
        refine awp_drawnE [(0, .q), (2, .q), (3, .q), (4, .q), (7, .q), (1, .q), (5, .q), (6, .q), (8, .k), (9, .q), (10, .e), (11, .q)] (fun i => match i with | 8 => .int .i64 co | _ => .undef) (fun _ => False) (fun _ _ => False) rfl (by decide +kernel) ?_
        repeat' (first | exact tf0 ‹_› | exact tf1 ‹_› | exact False.elim ‹_› | (with_reducible refine Al.intro ?_; intro pb hpb; (try simp only [hupd_none'] at hpb); (repeat rcases hpb with ⟨⟨hpx, hpy⟩, hpb⟩)) | with_reducible refine need ?_ | ((with_reducible first | apply frk0 | apply frk1 | apply frk2 | apply frk3 | apply frk4 | apply frk5 | apply frk6 | apply frk7 | apply frk8 | apply frk9) <;> intro h <;> try (exfalso; omega)) | with_reducible refine quiet_and ?_ ?_ | with_reducible refine awp_drawnA mixed (by decide +kernel) ?_ | ((fail_if_success with_reducible refine stp ?_); simp -implicitDefEqProofs only [go_sem, Nat.reduceEqDiff, Nat.reduceAdd, Nat.reduceLT, Nat.reduceMul, Nat.reduceSub, Nat.reduceLeDiff, ↓reduceIte, reduceCtorEq, ↓String.reduceEq, String.reduceNe, Int.reduceToNat, Int.reduceLT, Int.reduceLE, Int.reduceGT, Int.reduceGE, Int.reduceEq, Int.reduceNe, Int.reduceBEq, Int.reduceBNe, Int.reduceAdd, Int.reduceSub, Int.reduceMul, Int.reduceNeg,  encS, encSc, *]))
        · exact fun m3 _ => HC.out m3
        exact ⟨_, (by (repeat refine Sub.fresh ?_ (by assumption)); exact Sub.refl _), by rw [HX.out]; rfl, rfl⟩
      · have h1' : rel > 1125899906842624 := by omega
        have HX := Hid.mk (show jobS s rel = ((0, 0, 0, 0), 1) by unfold jobS; rw [if_pos HE.out, if_neg (fun h => h1 h.2)])
        clear hin h0 h1
        refine callWP_body Tryz.func19 rfl (N := 30) rfl (rs := [.cell 4 34, .tmp 5]) rfl en_19 (of_decide_eq_true rfl) ?_
        repeat' (first | exact tf0 ‹_› | exact tf1 ‹_› | exact False.elim ‹_› | (with_reducible refine Al.intro ?_; intro pb hpb; (try simp only [hupd_none'] at hpb); (repeat rcases hpb with ⟨⟨hpx, hpy⟩, hpb⟩)) | with_reducible refine need ?_ | ((with_reducible first | apply frk0 | apply frk1 | apply frk2 | apply frk3 | apply frk4 | apply frk5 | apply frk6 | apply frk7 | apply frk8 | apply frk9) <;> intro h <;> try (exfalso; omega)) | with_reducible refine quiet_and ?_ ?_ | with_reducible refine awp_drawnA mixed (by decide +kernel) ?_ | ((fail_if_success with_reducible refine stp ?_); simp -implicitDefEqProofs only [go_sem, Nat.reduceEqDiff, Nat.reduceAdd, Nat.reduceLT, Nat.reduceMul, Nat.reduceSub, Nat.reduceLeDiff, ↓reduceIte, reduceCtorEq, ↓String.reduceEq, String.reduceNe, Int.reduceToNat, Int.reduceLT, Int.reduceLE, Int.reduceGT, Int.reduceGE, Int.reduceEq, Int.reduceNe, Int.reduceBEq, Int.reduceBNe, Int.reduceAdd, Int.reduceSub, Int.reduceMul, Int.reduceNeg,  encS, encSc, *]))
        refine CallWP.to (HR.out _) ?_
        repeat' (first | exact tf0 ‹_› | exact tf1 ‹_› | exact False.elim ‹_› | (with_reducible refine Al.intro ?_; intro pb hpb; (try simp only [hupd_none'] at hpb); (repeat rcases hpb with ⟨⟨hpx, hpy⟩, hpb⟩)) | with_reducible refine need ?_ | ((with_reducible first | apply frk0 | apply frk1 | apply frk2 | apply frk3 | apply frk4 | apply frk5 | apply frk6 | apply frk7 | apply frk8 | apply frk9) <;> intro h <;> try (exfalso; omega)) | with_reducible refine quiet_and ?_ ?_ | with_reducible refine awp_drawnA mixed (by decide +kernel) ?_ | ((fail_if_success with_reducible refine stp ?_); simp -implicitDefEqProofs only [go_sem, Nat.reduceEqDiff, Nat.reduceAdd, Nat.reduceLT, Nat.reduceMul, Nat.reduceSub, Nat.reduceLeDiff, ↓reduceIte, reduceCtorEq, ↓String.reduceEq, String.reduceNe, Int.reduceToNat, Int.reduceLT, Int.reduceLE, Int.reduceGT, Int.reduceGE, Int.reduceEq, Int.reduceNe, Int.reduceBEq, Int.reduceBNe, Int.reduceAdd, Int.reduceSub, Int.reduceMul, Int.reduceNeg,  encS, encSc, *]))
        exact ⟨_, (by (repeat refine Sub.fresh ?_ (by assumption)); exact Sub.refl _), by rw [HX.out]; rfl, rfl⟩
    · have h0' : rel < 0 := by omega
      have HX := Hid.mk (show jobS s rel = ((0, 0, 0, 0), 1) by unfold jobS; rw [if_pos HE.out, if_neg (fun h => h0 h.1)])
      clear hin h0
      refine callWP_body Tryz.func19 rfl (N := 30) rfl (rs := [.cell 4 34, .tmp 5]) rfl en_19 (of_decide_eq_true rfl) ?_
      repeat' (first | exact tf0 ‹_› | exact tf1 ‹_› | exact False.elim ‹_› | (with_reducible refine Al.intro ?_; intro pb hpb; (try simp only [hupd_none'] at hpb); (repeat rcases hpb with ⟨⟨hpx, hpy⟩, hpb⟩)) | with_reducible refine need ?_ | ((with_reducible first | apply frk0 | apply frk1 | apply frk2 | apply frk3 | apply frk4 | apply frk5 | apply frk6 | apply frk7 | apply frk8 | apply frk9) <;> intro h <;> try (exfalso; omega)) | with_reducible refine quiet_and ?_ ?_ | with_reducible refine awp_drawnA mixed (by decide +kernel) ?_ | ((fail_if_success with_reducible refine stp ?_); simp -implicitDefEqProofs only [go_sem, Nat.reduceEqDiff, Nat.reduceAdd, Nat.reduceLT, Nat.reduceMul, Nat.reduceSub, Nat.reduceLeDiff, ↓reduceIte, reduceCtorEq, ↓String.reduceEq, String.reduceNe, Int.reduceToNat, Int.reduceLT, Int.reduceLE, Int.reduceGT, Int.reduceGE, Int.reduceEq, Int.reduceNe, Int.reduceBEq, Int.reduceBNe, Int.reduceAdd, Int.reduceSub, Int.reduceMul, Int.reduceNeg,  encS, encSc, *]))
      refine CallWP.to (HR.out _) ?_
      repeat' (first | exact tf0 ‹_› | exact tf1 ‹_› | exact False.elim ‹_› | (with_reducible refine Al.intro ?_; intro pb hpb; (try simp only [hupd_none'] at hpb); (repeat rcases hpb with ⟨⟨hpx, hpy⟩, hpb⟩)) | with_reducible refine need ?_ | ((with_reducible first | apply frk0 | apply frk1 | apply frk2 | apply frk3 | apply frk4 | apply frk5 | apply frk6 | apply frk7 | apply frk8 | apply frk9) <;> intro h <;> try (exfalso; omega)) | with_reducible refine quiet_and ?_ ?_ | with_reducible refine awp_drawnA mixed (by decide +kernel) ?_ | ((fail_if_success with_reducible refine stp ?_); simp -implicitDefEqProofs only [go_sem, Nat.reduceEqDiff, Nat.reduceAdd, Nat.reduceLT, Nat.reduceMul, Nat.reduceSub, Nat.reduceLeDiff, ↓reduceIte, reduceCtorEq, ↓String.reduceEq, String.reduceNe, Int.reduceToNat, Int.reduceLT, Int.reduceLE, Int.reduceGT, Int.reduceGE, Int.reduceEq, Int.reduceNe, Int.reduceBEq, Int.reduceBNe, Int.reduceAdd, Int.reduceSub, Int.reduceMul, Int.reduceNeg,  encS, encSc, *]))
      exact ⟨_, (by (repeat refine Sub.fresh ?_ (by assumption)); exact Sub.refl _), by rw [HX.out]; rfl, rfl⟩
  · have HX := Hid.mk (show jobS s rel = ((0, 0, 0, 0), rightS s) by unfold jobS; rw [if_neg hr])
    obtain ⟨e, he⟩ : ∃ e, rightS s = e := ⟨_, rfl⟩
    rw [he] at HR HX hr
    have hb : (e != 0) = true := by simpa using hr
    clear hr he
    refine callWP_body Tryz.func19 rfl (N := 30) rfl (rs := [.cell 4 34, .tmp 5]) rfl en_19 (of_decide_eq_true rfl) ?_
    repeat' (first | exact tf0 ‹_› | exact tf1 ‹_› | exact False.elim ‹_› | (with_reducible refine Al.intro ?_; intro pb hpb; (try simp only [hupd_none'] at hpb); (repeat rcases hpb with ⟨⟨hpx, hpy⟩, hpb⟩)) | with_reducible refine need ?_ | ((with_reducible first | apply frk0 | apply frk1 | apply frk2 | apply frk3 | apply frk4 | apply frk5 | apply frk6 | apply frk7 | apply frk8 | apply frk9) <;> intro h <;> try (exfalso; omega)) | with_reducible refine quiet_and ?_ ?_ | with_reducible refine awp_drawnA mixed (by decide +kernel) ?_ | ((fail_if_success with_reducible refine stp ?_); simp -implicitDefEqProofs only [go_sem, Nat.reduceEqDiff, Nat.reduceAdd, Nat.reduceLT, Nat.reduceMul, Nat.reduceSub, Nat.reduceLeDiff, ↓reduceIte, reduceCtorEq, ↓String.reduceEq, String.reduceNe, Int.reduceToNat, Int.reduceLT, Int.reduceLE, Int.reduceGT, Int.reduceGE, Int.reduceEq, Int.reduceNe, Int.reduceBEq, Int.reduceBNe, Int.reduceAdd, Int.reduceSub, Int.reduceMul, Int.reduceNeg,  encS, encSc, *]))
    refine CallWP.to (HR.out _) ?_
    repeat' (first | exact tf0 ‹_› | exact tf1 ‹_› | exact False.elim ‹_› | (with_reducible refine Al.intro ?_; intro pb hpb; (try simp only [hupd_none'] at hpb); (repeat rcases hpb with ⟨⟨hpx, hpy⟩, hpb⟩)) | with_reducible refine need ?_ | ((with_reducible first | apply frk0 | apply frk1 | apply frk2 | apply frk3 | apply frk4 | apply frk5 | apply frk6 | apply frk7 | apply frk8 | apply frk9) <;> intro h <;> try (exfalso; omega)) | with_reducible refine quiet_and ?_ ?_ | with_reducible refine awp_drawnA mixed (by decide +kernel) ?_ | ((fail_if_success with_reducible refine stp ?_); simp -implicitDefEqProofs only [go_sem, Nat.reduceEqDiff, Nat.reduceAdd, Nat.reduceLT, Nat.reduceMul, Nat.reduceSub, Nat.reduceLeDiff, ↓reduceIte, reduceCtorEq, ↓String.reduceEq, String.reduceNe, Int.reduceToNat, Int.reduceLT, Int.reduceLE, Int.reduceGT, Int.reduceGE, Int.reduceEq, Int.reduceNe, Int.reduceBEq, Int.reduceBNe, Int.reduceAdd, Int.reduceSub, Int.reduceMul, Int.reduceNeg,  encS, encSc, *]))
    exact ⟨_, (by (repeat refine Sub.fresh ?_ (by assumption)); exact Sub.refl _), by rw [HX.out]; rfl, rfl⟩
/-- A number from 0 on, below a bound. -/
def nearF (k n : Int) : Int := if k < 0 ∨ n < 1 then 0 else k.tmod n
theorem near_in (k n : Int) (hn : 1 ≤ n) : 0 ≤ nearF k n ∧ nearF k n < n := by
  unfold nearF; split
  · omega
  · rename_i h; exact ⟨Int.tmod_nonneg _ (by omega), Int.tmod_lt_of_pos _ (by omega)⟩
theorem near_spec (G : Nat → AVal) (k n : Int) (hn : 0 ≤ n ∧ n ≤ 1000000) : Ans G 14 [.int .i64 k, .int .i64 n] (.int .i64 (nearF k n)) := by
  intro m
  by_cases h1 : k < 0
  · have HX := Hid.mk (show nearF k n = 0 by unfold nearF; rw [if_pos (.inl h1)])
    refine callWP_body Tryz.func14 rfl (N := 14) rfl (rs := [.tmp 4]) rfl en_14 (of_decide_eq_true rfl) ?_
    repeat' (first | exact tf0 ‹_› | exact tf1 ‹_› | exact False.elim ‹_› | (with_reducible refine Al.intro ?_; intro pb hpb; (try simp only [hupd_none'] at hpb); (repeat rcases hpb with ⟨⟨hpx, hpy⟩, hpb⟩)) | with_reducible refine need ?_ | ((with_reducible first | apply frk0 | apply frk1 | apply frk2 | apply frk3 | apply frk4 | apply frk5 | apply frk6 | apply frk7 | apply frk8 | apply frk9) <;> intro h <;> try (exfalso; omega)) | with_reducible refine quiet_and ?_ ?_ | with_reducible refine awp_drawnA mixed (by decide +kernel) ?_ | ((fail_if_success with_reducible refine stp ?_); simp -implicitDefEqProofs only [go_sem, Nat.reduceEqDiff, Nat.reduceAdd, Nat.reduceLT, Nat.reduceMul, Nat.reduceSub, Nat.reduceLeDiff, ↓reduceIte, reduceCtorEq, ↓String.reduceEq, String.reduceNe, Int.reduceToNat, Int.reduceLT, Int.reduceLE, Int.reduceGT, Int.reduceGE, Int.reduceEq, Int.reduceNe, Int.reduceBEq, Int.reduceBNe, Int.reduceAdd, Int.reduceSub, Int.reduceMul, Int.reduceNeg,  *]))
    exact ⟨_, (by (repeat refine Sub.fresh ?_ (by assumption)); exact Sub.refl _), by rw [HX.out], rfl⟩
  · by_cases h2 : n < 1
    · have HX := Hid.mk (show nearF k n = 0 by unfold nearF; rw [if_pos (.inr h2)])
      refine callWP_body Tryz.func14 rfl (N := 14) rfl (rs := [.tmp 4]) rfl en_14 (of_decide_eq_true rfl) ?_
      repeat' (first | exact tf0 ‹_› | exact tf1 ‹_› | exact False.elim ‹_› | (with_reducible refine Al.intro ?_; intro pb hpb; (try simp only [hupd_none'] at hpb); (repeat rcases hpb with ⟨⟨hpx, hpy⟩, hpb⟩)) | with_reducible refine need ?_ | ((with_reducible first | apply frk0 | apply frk1 | apply frk2 | apply frk3 | apply frk4 | apply frk5 | apply frk6 | apply frk7 | apply frk8 | apply frk9) <;> intro h <;> try (exfalso; omega)) | with_reducible refine quiet_and ?_ ?_ | with_reducible refine awp_drawnA mixed (by decide +kernel) ?_ | ((fail_if_success with_reducible refine stp ?_); simp -implicitDefEqProofs only [go_sem, Nat.reduceEqDiff, Nat.reduceAdd, Nat.reduceLT, Nat.reduceMul, Nat.reduceSub, Nat.reduceLeDiff, ↓reduceIte, reduceCtorEq, ↓String.reduceEq, String.reduceNe, Int.reduceToNat, Int.reduceLT, Int.reduceLE, Int.reduceGT, Int.reduceGE, Int.reduceEq, Int.reduceNe, Int.reduceBEq, Int.reduceBNe, Int.reduceAdd, Int.reduceSub, Int.reduceMul, Int.reduceNeg,  *]))
      exact ⟨_, (by (repeat refine Sub.fresh ?_ (by assumption)); exact Sub.refl _), by rw [HX.out], rfl⟩
    · obtain ⟨q, hq⟩ : ∃ q, k.tmod n = q := ⟨_, rfl⟩
      have hi := near_in k n (by omega)
      have HX := Hid.mk (show nearF k n = q by unfold nearF; rw [if_neg (by omega), hq])
      have w1 : IntKind.i64.wrap q = q := wrap_i64 (by have := HX.out; omega) (by have := HX.out; omega)
      have nz : n ≠ 0 := by omega
      clear hi
      refine callWP_body Tryz.func14 rfl (N := 14) rfl (rs := [.tmp 4]) rfl en_14 (of_decide_eq_true rfl) ?_
      repeat' (first | exact tf0 ‹_› | exact tf1 ‹_› | exact False.elim ‹_› | (with_reducible refine Al.intro ?_; intro pb hpb; (try simp only [hupd_none'] at hpb); (repeat rcases hpb with ⟨⟨hpx, hpy⟩, hpb⟩)) | with_reducible refine need ?_ | ((with_reducible first | apply frk0 | apply frk1 | apply frk2 | apply frk3 | apply frk4 | apply frk5 | apply frk6 | apply frk7 | apply frk8 | apply frk9) <;> intro h <;> try (exfalso; omega)) | with_reducible refine quiet_and ?_ ?_ | with_reducible refine awp_drawnA mixed (by decide +kernel) ?_ | ((fail_if_success with_reducible refine stp ?_); simp -implicitDefEqProofs only [go_sem, Nat.reduceEqDiff, Nat.reduceAdd, Nat.reduceLT, Nat.reduceMul, Nat.reduceSub, Nat.reduceLeDiff, ↓reduceIte, reduceCtorEq, ↓String.reduceEq, String.reduceNe, Int.reduceToNat, Int.reduceLT, Int.reduceLE, Int.reduceGT, Int.reduceGE, Int.reduceEq, Int.reduceNe, Int.reduceBEq, Int.reduceBNe, Int.reduceAdd, Int.reduceSub, Int.reduceMul, Int.reduceNeg,  *]))
      exact ⟨_, (by (repeat refine Sub.fresh ?_ (by assumption)); exact Sub.refl _), by rw [HX.out], rfl⟩
/-- What is done: kind, which stream, whether as it is, a job, an outcome. -/
abbrev Act := Int × Int × Bool × Jb × Int × Int × Int
abbrev encAc (a : Act) : List AVal := [.int .i64 a.1, .int .i64 a.2.1, .bool a.2.2.1, .int .i64 a.2.2.2.1.1, .int .i64 a.2.2.2.1.2.1, .int .i64 a.2.2.2.1.2.2.1, .int .i64 a.2.2.2.1.2.2.2, .int .i64 a.2.2.2.2.1, .int .i64 a.2.2.2.2.2.1, .int .i64 a.2.2.2.2.2.2]
theorem encAc_len (a : Act) : (encAc a).length = 10 := rfl
def encA (a : Act) : AVal := .agg (encAc a)
def maskF (x : Int) : Int := abits .and .i64 x 1048575
/-- An act's job. -/
def jobA (S : List Stm) (a : Act) : Jb := if a.2.2.1 = true ∨ S.length = 0 then a.2.2.2.1 else (jobS (S.getD (nearF a.2.1 S.length).toNat default) (maskF a.2.2.2.1.2.1)).1
end Go.Proofs.YtdckcophbmnjjaaGreatDoor
namespace Go.Proofs.YtdckcophbmnjjaaGreatDoor
open Go Go.Proofs.YtdckcophbmnjjaaGreatDoor.Ab
open Go.Proofs (Tryz.prog)
set_option maxRecDepth 100000
set_option maxHeartbeats 2000000 in
theorem job_spec (G : Nat → AVal) (S : List Stm) (hS : S.length ≤ 1000) (a : Act) (v : AVal) (m : Heap) (hs : RdS S v m) : CallWP Tryz.prog G 8 [v, .agg (encAc a)] m fun w m' => w = encJ (jobA S a) ∧ m' = m := by
  obtain ⟨ki, id, raw, ⟨j0, j1, j2, j3⟩, tag, fa, at1⟩ := a
  obtain ⟨LL, hLL⟩ : ∃ L, L = S.length := ⟨_, rfl⟩
  have ll : (S.map encS).length = LL := by rw [List.length_map]; exact hLL.symm
  obtain ⟨b, pre, post, N, cap, hw⟩ := hs.ways hLL
  have HS := Hid.mk hLL
  have hL : LL ≤ 1000 := by omega
  clear hS hs
  by_cases hb : raw = true ∨ LL = 0
  · have HX := Hid.mk (show jobA S (ki, id, raw, (j0, j1, j2, j3), tag, fa, at1) = (j0, j1, j2, j3) by unfold jobA; rw [if_pos (by rw [← hLL]; exact hb)])
    clear hLL
    rcases hb with hb | hb
    · subst hb
      rcases hw with ⟨rfl, hz⟩ | ⟨rfl, hb⟩ | rfl
      all_goals (
        refine callWP_body Tryz.func8 rfl (N := 33) rfl (rs := [.cell 4 34]) rfl en_8 (of_decide_eq_true rfl) ?_
        repeat' (first | exact tf0 ‹_› | exact tf1 ‹_› | exact False.elim ‹_› | (with_reducible refine Al.intro ?_; intro pb hpb; (try simp only [hupd_none'] at hpb); (repeat rcases hpb with ⟨⟨hpx, hpy⟩, hpb⟩)) | with_reducible refine need ?_ | ((with_reducible first | apply frk0 | apply frk1 | apply frk2 | apply frk3 | apply frk4 | apply frk5 | apply frk6 | apply frk7 | apply frk8 | apply frk9) <;> intro h <;> try (exfalso; omega)) | with_reducible refine quiet_and ?_ ?_ | with_reducible refine awp_drawnA mixed (by decide +kernel) ?_ | ((fail_if_success with_reducible refine stp ?_); simp -implicitDefEqProofs only [go_sem, Nat.reduceEqDiff, Nat.reduceAdd, Nat.reduceLT, Nat.reduceMul, Nat.reduceSub, Nat.reduceLeDiff, ↓reduceIte, reduceCtorEq, ↓String.reduceEq, String.reduceNe, Int.reduceToNat, Int.reduceLT, Int.reduceLE, Int.reduceGT, Int.reduceGE, Int.reduceEq, Int.reduceNe, Int.reduceBEq, Int.reduceBNe, Int.reduceAdd, Int.reduceSub, Int.reduceMul, Int.reduceNeg,  encAc, *]))
        exact ⟨_, (by (repeat refine Sub.fresh ?_ (by assumption)); exact Sub.refl _), by rw [HX.out]; rfl, rfl⟩)
    · subst hb
      cases raw
      all_goals (
        rcases hw with ⟨rfl, hz⟩ | ⟨rfl, hbb⟩ | rfl
        all_goals (
          refine callWP_body Tryz.func8 rfl (N := 33) rfl (rs := [.cell 4 34]) rfl en_8 (of_decide_eq_true rfl) ?_
          repeat' (first | exact tf0 ‹_› | exact tf1 ‹_› | exact False.elim ‹_› | (with_reducible refine Al.intro ?_; intro pb hpb; (try simp only [hupd_none'] at hpb); (repeat rcases hpb with ⟨⟨hpx, hpy⟩, hpb⟩)) | with_reducible refine need ?_ | ((with_reducible first | apply frk0 | apply frk1 | apply frk2 | apply frk3 | apply frk4 | apply frk5 | apply frk6 | apply frk7 | apply frk8 | apply frk9) <;> intro h <;> try (exfalso; omega)) | with_reducible refine quiet_and ?_ ?_ | with_reducible refine awp_drawnA mixed (by decide +kernel) ?_ | ((fail_if_success with_reducible refine stp ?_); simp -implicitDefEqProofs only [go_sem, Nat.reduceEqDiff, Nat.reduceAdd, Nat.reduceLT, Nat.reduceMul, Nat.reduceSub, Nat.reduceLeDiff, ↓reduceIte, reduceCtorEq, ↓String.reduceEq, String.reduceNe, Int.reduceToNat, Int.reduceLT, Int.reduceLE, Int.reduceGT, Int.reduceGE, Int.reduceEq, Int.reduceNe, Int.reduceBEq, Int.reduceBNe, Int.reduceAdd, Int.reduceSub, Int.reduceMul, Int.reduceNeg,  encAc, *]))
          exact ⟨_, (by (repeat refine Sub.fresh ?_ (by assumption)); exact Sub.refl _), by rw [HX.out]; rfl, rfl⟩))
  · have hr : raw = false := by cases raw <;> simp_all
    subst hr
    have h0 : LL ≠ 0 := fun h => hb (.inr h)
    have hb0 : ((LL : Int) == 0) = false := by simpa using h0
    have hin := near_in id LL (by omega)
    obtain ⟨q, hq⟩ : ∃ q : Nat, nearF id LL = q := ⟨(nearF id LL).toNat, by omega⟩
    have hqL : q < LL := by omega
    have hqS : q < S.length := by omega
    have HX : Hid (jobA S (ki, id, false, (j0, j1, j2, j3), tag, fa, at1) = (jobS (S.getD q default) (maskF j1)).1) := .mk (by unfold jobA; rw [if_neg (by rw [← hLL]; exact hb)]; simp only [← hLL, hq, Int.toNat_natCast])
    have HN := Hid.mk (near_spec G id LL (by omega))
    rw [hq] at HN
    obtain ⟨x, hx⟩ : ∃ x, S.getD q default = x := ⟨_, rfl⟩
    have g0 := sm_at S pre post q hqS x hx
    have g2 := sm_lst S q hqS x hx
    have l1 := sm_len S pre post q hqS
    rw [hx] at HX
    obtain ⟨mk1, hmk⟩ : ∃ z, maskF j1 = z := ⟨_, rfl⟩
    rw [hmk] at HX
    have hmk2 : abits .and .i64 j1 1048575 = mk1 := hmk
    have HJ := Hid.mk (rjob_spec G x mk1)
    obtain ⟨⟨⟨r0, r1, r2, r3⟩, e⟩, hje⟩ : ∃ y, jobS x mk1 = y := ⟨_, rfl⟩
    rw [hje] at HX HJ
    have lt1 : (q : Int) < (LL : Int) := by omega
    clear hin hq hb h0 hLL hx hqS hmk hje
    rcases hw with ⟨rfl, hz⟩ | ⟨rfl, hbb⟩ | rfl
    all_goals (
      first
      | (exfalso; omega)
      | (try (have frb : ∀ c, m c = none → (b = c) = False := fun c h => by rw [eq_iff_iff, iff_false]; rintro rfl; rw [hbb] at h; cases h)
         refine callWP_body Tryz.func8 rfl (N := 33) rfl (rs := [.cell 4 34]) rfl en_8 (of_decide_eq_true rfl) ?_
         repeat' (first | exact tf0 ‹_› | exact tf1 ‹_› | exact False.elim ‹_› | (with_reducible refine Al.intro ?_; intro pb hpb; (try simp only [hupd_none'] at hpb); (repeat rcases hpb with ⟨⟨hpx, hpy⟩, hpb⟩)) | with_reducible refine need ?_ | ((with_reducible first | apply frk0 | apply frk1 | apply frk2 | apply frk3 | apply frk4 | apply frk5 | apply frk6 | apply frk7 | apply frk8 | apply frk9) <;> intro h <;> try (exfalso; omega)) | with_reducible refine quiet_and ?_ ?_ | with_reducible refine awp_drawnA mixed (by decide +kernel) ?_ | ((fail_if_success with_reducible refine stp ?_); simp -implicitDefEqProofs only [go_sem, Nat.reduceEqDiff, Nat.reduceAdd, Nat.reduceLT, Nat.reduceMul, Nat.reduceSub, Nat.reduceLeDiff, ↓reduceIte, reduceCtorEq, ↓String.reduceEq, String.reduceNe, Int.reduceToNat, Int.reduceLT, Int.reduceLE, Int.reduceGT, Int.reduceGE, Int.reduceEq, Int.reduceNe, Int.reduceBEq, Int.reduceBNe, Int.reduceAdd, Int.reduceSub, Int.reduceMul, Int.reduceNeg,  encAc, *]))
         refine awp_drawnE [(0, .q), (1, .q), (3, .q), (8, .q), (16, .q), (2, .q), (4, .q), (9, .q), (10, .q), (11, .q), (5, .k), (6, .q), (7, .q), (12, .k), (13, .q), (14, .q), (15, .r [17]), (17, .e), (18, .q)] (fun i => match i with | 5 => .int .i64 (q : Nat) | 12 => .tuple [encJ (r0, r1, r2, r3), .int .i64 e] | _ => .undef) (fun _ => False) (fun _ _ => False) rfl (by decide +kernel) ?_
         repeat' (first | exact tf0 ‹_› | exact tf1 ‹_› | exact False.elim ‹_› | (with_reducible refine Al.intro ?_; intro pb hpb; (try simp only [hupd_none'] at hpb); (repeat rcases hpb with ⟨⟨hpx, hpy⟩, hpb⟩)) | with_reducible refine need ?_ | ((with_reducible first | apply frk0 | apply frk1 | apply frk2 | apply frk3 | apply frk4 | apply frk5 | apply frk6 | apply frk7 | apply frk8 | apply frk9) <;> intro h <;> try (exfalso; omega)) | with_reducible refine quiet_and ?_ ?_ | with_reducible refine awp_drawnA mixed (by decide +kernel) ?_ | ((fail_if_success with_reducible refine stp ?_); simp -implicitDefEqProofs only [go_sem, Nat.reduceEqDiff, Nat.reduceAdd, Nat.reduceLT, Nat.reduceMul, Nat.reduceSub, Nat.reduceLeDiff, ↓reduceIte, reduceCtorEq, ↓String.reduceEq, String.reduceNe, Int.reduceToNat, Int.reduceLT, Int.reduceLE, Int.reduceGT, Int.reduceGE, Int.reduceEq, Int.reduceNe, Int.reduceBEq, Int.reduceBNe, Int.reduceAdd, Int.reduceSub, Int.reduceMul, Int.reduceNeg,  encAc, encSc, encJ, encJc, *]))
         · exact fun m3 _ => HN.out m3
         · exact fun m3 _ => HJ.out m3
         refine ⟨_, (by (repeat refine Sub.fresh ?_ (by assumption)); exact Sub.refl _), ?_, rfl⟩
         rw [HX.out]))
end Go.Proofs.YtdckcophbmnjjaaGreatDoor
