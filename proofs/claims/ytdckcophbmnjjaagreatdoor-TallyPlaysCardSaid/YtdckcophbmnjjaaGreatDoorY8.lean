/- A frame's body: how long it is. A frame's body. The longest a frame may be. -/
import Derived.Test.YtdckcophbmnjjaaGreatDoorY5
set_option linter.all false
namespace Go.Proofs.YtdckcophbmnjjaaGreatDoor
open Go Go.Proofs.YtdckcophbmnjjaaGreatDoor.Ab
open Go.Proofs (Tryz.prog)
set_option maxRecDepth 100000
theorem nz_spec (G : Nat → AVal) : Ans G 98 [.int .u8 0] (.bool false) := by
  intro m
  refine callWP_body Tryz.func98 rfl (N := 5) rfl (rs := [.tmp 2]) rfl en_98 (of_decide_eq_true rfl) ?_
  repeat' (first | exact tf0 ‹_› | exact tf1 ‹_› | exact False.elim ‹_› | (with_reducible refine Al.intro ?_; intro pb hpb; (try simp only [hupd_none'] at hpb); (repeat rcases hpb with ⟨⟨hpx, hpy⟩, hpb⟩)) | with_reducible refine need ?_ | ((with_reducible first | apply frk0 | apply frk1 | apply frk2 | apply frk3 | apply frk4 | apply frk5 | apply frk6 | apply frk7 | apply frk8 | apply frk9) <;> intro h <;> try (exfalso; omega)) | with_reducible refine quiet_and ?_ ?_ | with_reducible refine awp_drawnA mixed (by decide +kernel) ?_ | ((fail_if_success with_reducible refine stp ?_); simp -implicitDefEqProofs only [go_sem, Nat.reduceEqDiff, Nat.reduceAdd, Nat.reduceLT, Nat.reduceMul, Nat.reduceSub, Nat.reduceLeDiff, ↓reduceIte, reduceCtorEq, ↓String.reduceEq, String.reduceNe, Int.reduceToNat, Int.reduceLT, Int.reduceLE, Int.reduceGT, Int.reduceGE, Int.reduceEq, Int.reduceNe, Int.reduceBEq, Int.reduceBNe, Int.reduceAdd, Int.reduceSub, Int.reduceMul, Int.reduceNeg,  *]))
  refine ⟨m, (by (repeat refine Sub.fresh ?_ (by assumption)); exact Sub.refl m), ?_, rfl⟩
  rfl
abbrev nzV : AVal := .func (.func 98) [] []
set_option maxHeartbeats 1000000 in
theorem index0_spec (G : Nat → AVal) (n : Nat) (hn : n ≤ 1000) (v : AVal) (m : Heap) (hs : SlM encU 1 (List.replicate n 0) v m) : CallWP Tryz.prog G 104 [v, nzV] m fun v' m' => v' = .int .i64 (-1) ∧ m' = m := by
  rcases hs with ⟨rfl, h⟩ | ⟨b, blk, hb, pre, post, N, cap, rfl, rfl, -, -⟩
  · obtain rfl : n = 0 := by cases n with | zero => rfl | succ k => simp at h
    refine callWP_body Tryz.func104 rfl (N := 19) rfl (rs := [.tmp 4]) rfl en_104 (of_decide_eq_true rfl) ?_
    repeat' (first | exact tf0 ‹_› | exact tf1 ‹_› | exact False.elim ‹_› | (with_reducible refine Al.intro ?_; intro pb hpb; (try simp only [hupd_none'] at hpb); (repeat rcases hpb with ⟨⟨hpx, hpy⟩, hpb⟩)) | with_reducible refine need ?_ | ((with_reducible first | apply frk0 | apply frk1 | apply frk2 | apply frk3 | apply frk4 | apply frk5 | apply frk6 | apply frk7 | apply frk8 | apply frk9) <;> intro h <;> try (exfalso; omega)) | with_reducible refine quiet_and ?_ ?_ | with_reducible refine awp_drawnA mixed (by decide +kernel) ?_ | ((fail_if_success with_reducible refine stp ?_); simp -implicitDefEqProofs only [go_sem, Nat.reduceEqDiff, Nat.reduceAdd, Nat.reduceLT, Nat.reduceMul, Nat.reduceSub, Nat.reduceLeDiff, ↓reduceIte, reduceCtorEq, ↓String.reduceEq, String.reduceNe, Int.reduceToNat, Int.reduceLT, Int.reduceLE, Int.reduceGT, Int.reduceGE, Int.reduceEq, Int.reduceNe, Int.reduceBEq, Int.reduceBNe, Int.reduceAdd, Int.reduceSub, Int.reduceMul, Int.reduceNeg,  *]))
    refine awp_loopP 0 (fun ts m' => m' = m) (fun k ts m' => ts 7 = .int .i64 0 ∧ ts 8 = .int .i64 0 ∧ m' = m) 0 ⟨ttt, ttt, rfl⟩ ?_ ?_
    · rintro k ts m2 ⟨t7, t8, hm2⟩
      subst m2
      repeat' (first | exact tf0 ‹_› | exact tf1 ‹_› | exact False.elim ‹_› | (with_reducible refine Al.intro ?_; intro pb hpb; (try simp only [hupd_none'] at hpb); (repeat rcases hpb with ⟨⟨hpx, hpy⟩, hpb⟩)) | with_reducible refine need ?_ | ((with_reducible first | apply frk0 | apply frk1 | apply frk2 | apply frk3 | apply frk4 | apply frk5 | apply frk6 | apply frk7 | apply frk8 | apply frk9) <;> intro h <;> try (exfalso; omega)) | with_reducible refine quiet_and ?_ ?_ | with_reducible refine awp_drawnA mixed (by decide +kernel) ?_ | ((fail_if_success with_reducible refine stp ?_); simp -implicitDefEqProofs only [go_sem, Nat.reduceEqDiff, Nat.reduceAdd, Nat.reduceLT, Nat.reduceMul, Nat.reduceSub, Nat.reduceLeDiff, ↓reduceIte, reduceCtorEq, ↓String.reduceEq, String.reduceNe, Int.reduceToNat, Int.reduceLT, Int.reduceLE, Int.reduceGT, Int.reduceGE, Int.reduceEq, Int.reduceNe, Int.reduceBEq, Int.reduceBNe, Int.reduceAdd, Int.reduceSub, Int.reduceMul, Int.reduceNeg,  *]))
      exact Again.intro rfl
    · rintro ts m2 hm2
      subst m2
      repeat' (first | exact tf0 ‹_› | exact tf1 ‹_› | exact False.elim ‹_› | (with_reducible refine Al.intro ?_; intro pb hpb; (try simp only [hupd_none'] at hpb); (repeat rcases hpb with ⟨⟨hpx, hpy⟩, hpb⟩)) | with_reducible refine need ?_ | ((with_reducible first | apply frk0 | apply frk1 | apply frk2 | apply frk3 | apply frk4 | apply frk5 | apply frk6 | apply frk7 | apply frk8 | apply frk9) <;> intro h <;> try (exfalso; omega)) | with_reducible refine quiet_and ?_ ?_ | with_reducible refine awp_drawnA mixed (by decide +kernel) ?_ | ((fail_if_success with_reducible refine stp ?_); simp -implicitDefEqProofs only [go_sem, Nat.reduceEqDiff, Nat.reduceAdd, Nat.reduceLT, Nat.reduceMul, Nat.reduceSub, Nat.reduceLeDiff, ↓reduceIte, reduceCtorEq, ↓String.reduceEq, String.reduceNe, Int.reduceToNat, Int.reduceLT, Int.reduceLE, Int.reduceGT, Int.reduceGE, Int.reduceEq, Int.reduceNe, Int.reduceBEq, Int.reduceBNe, Int.reduceAdd, Int.reduceSub, Int.reduceMul, Int.reduceNeg,  *]))
      exact ⟨_, Sub.refl _, rfl, rfl⟩
  · obtain ⟨D, hD⟩ : ∃ D, D = List.replicate n (0 : Int) := ⟨_, rfl⟩
    have hl : D.length = n := by rw [hD, List.length_replicate]
    rw [← hD] at hb ⊢
    rw [hl]
    have HD := Hid.mk (And.intro hD hl)
    clear hD hl
    refine callWP_body Tryz.func104 rfl (N := 19) rfl (rs := [.tmp 4]) rfl en_104 (of_decide_eq_true rfl) ?_
    repeat' (first | exact tf0 ‹_› | exact tf1 ‹_› | exact False.elim ‹_› | (with_reducible refine Al.intro ?_; intro pb hpb; (try simp only [hupd_none'] at hpb); (repeat rcases hpb with ⟨⟨hpx, hpy⟩, hpb⟩)) | with_reducible refine need ?_ | ((with_reducible first | apply frk0 | apply frk1 | apply frk2 | apply frk3 | apply frk4 | apply frk5 | apply frk6 | apply frk7 | apply frk8 | apply frk9) <;> intro h <;> try (exfalso; omega)) | with_reducible refine quiet_and ?_ ?_ | with_reducible refine awp_drawnA mixed (by decide +kernel) ?_ | ((fail_if_success with_reducible refine stp ?_); simp -implicitDefEqProofs only [go_sem, Nat.reduceEqDiff, Nat.reduceAdd, Nat.reduceLT, Nat.reduceMul, Nat.reduceSub, Nat.reduceLeDiff, ↓reduceIte, reduceCtorEq, ↓String.reduceEq, String.reduceNe, Int.reduceToNat, Int.reduceLT, Int.reduceLE, Int.reduceGT, Int.reduceGE, Int.reduceEq, Int.reduceNe, Int.reduceBEq, Int.reduceBNe, Int.reduceAdd, Int.reduceSub, Int.reduceMul, Int.reduceNeg,  *]))
    refine awp_loopP 0 (fun ts m' => m' = m) (fun k ts m' => ∃ i : Nat, Hid (k = n - i ∧ i ≤ n) ∧ ts 0 = .slice b pre.length n cap ∧ ts 1 = nzV ∧ ts 7 = .int .i64 (n : Nat) ∧ ts 8 = .int .i64 (i : Nat) ∧ m' = m) n ⟨0, .mk ⟨rfl, Nat.zero_le _⟩, ttt, ttt, ttt, ttt, rfl⟩ ?_ ?_
    · rintro k ts m2 ⟨i, H, t0, t1, t7, t8, hm2⟩
      subst m2
      by_cases hi : i < n
      · have lt : (i : Int) < (n : Int) := by omega
        have hiD : i < D.length := by rw [HD.out.2]; exact hi
        have g1 := rowp_at D pre post i hiD 0 (by rw [HD.out.1]; simp [List.getD_eq_getElem?_getD, hi])
        have l1 := rowp_len D pre post i hiD
        have w1 : IntKind.i64.wrap ((i : Int) + 1) = ((i + 1 : Nat) : Int) := by rw [wrap_i64 (by omega) (by omega)]; omega
        clear hiD
        repeat' (first | exact tf0 ‹_› | exact tf1 ‹_› | exact False.elim ‹_› | (with_reducible refine Al.intro ?_; intro pb hpb; (try simp only [hupd_none'] at hpb); (repeat rcases hpb with ⟨⟨hpx, hpy⟩, hpb⟩)) | with_reducible refine need ?_ | ((with_reducible first | apply frk0 | apply frk1 | apply frk2 | apply frk3 | apply frk4 | apply frk5 | apply frk6 | apply frk7 | apply frk8 | apply frk9) <;> intro h <;> try (exfalso; omega)) | with_reducible refine quiet_and ?_ ?_ | with_reducible refine awp_drawnA mixed (by decide +kernel) ?_ | ((fail_if_success with_reducible refine stp ?_); simp -implicitDefEqProofs only [go_sem, Nat.reduceEqDiff, Nat.reduceAdd, Nat.reduceLT, Nat.reduceMul, Nat.reduceSub, Nat.reduceLeDiff, ↓reduceIte, reduceCtorEq, ↓String.reduceEq, String.reduceNe, Int.reduceToNat, Int.reduceLT, Int.reduceLE, Int.reduceGT, Int.reduceGE, Int.reduceEq, Int.reduceNe, Int.reduceBEq, Int.reduceBNe, Int.reduceAdd, Int.reduceSub, Int.reduceMul, Int.reduceNeg,  *]))
        refine CallWP.to (nz_spec G _) ?_
        repeat' (first | exact tf0 ‹_› | exact tf1 ‹_› | exact False.elim ‹_› | (with_reducible refine Al.intro ?_; intro pb hpb; (try simp only [hupd_none'] at hpb); (repeat rcases hpb with ⟨⟨hpx, hpy⟩, hpb⟩)) | with_reducible refine need ?_ | ((with_reducible first | apply frk0 | apply frk1 | apply frk2 | apply frk3 | apply frk4 | apply frk5 | apply frk6 | apply frk7 | apply frk8 | apply frk9) <;> intro h <;> try (exfalso; omega)) | with_reducible refine quiet_and ?_ ?_ | with_reducible refine awp_drawnA mixed (by decide +kernel) ?_ | ((fail_if_success with_reducible refine stp ?_); simp -implicitDefEqProofs only [go_sem, Nat.reduceEqDiff, Nat.reduceAdd, Nat.reduceLT, Nat.reduceMul, Nat.reduceSub, Nat.reduceLeDiff, ↓reduceIte, reduceCtorEq, ↓String.reduceEq, String.reduceNe, Int.reduceToNat, Int.reduceLT, Int.reduceLE, Int.reduceGT, Int.reduceGE, Int.reduceEq, Int.reduceNe, Int.reduceBEq, Int.reduceBNe, Int.reduceAdd, Int.reduceSub, Int.reduceMul, Int.reduceNeg,  *]))
        exact Again.intro ⟨n - (i + 1), by have := H.out; omega, _, Sub.refl _, i + 1, .mk ⟨rfl, by omega⟩, (by first | (simp only [upd, put, Nat.reduceEqDiff, ↓reduceIte, t0]; done) | (simp [upd, put, t0]; done) | rfl | (simp [upd, put, t0]; rfl)), (by first | (simp only [upd, put, Nat.reduceEqDiff, ↓reduceIte, t1]; done) | (simp [upd, put, t1]; done) | rfl | (simp [upd, put, t1]; rfl)), (by first | (simp only [upd, put, Nat.reduceEqDiff, ↓reduceIte, t7]; done) | (simp [upd, put, t7]; done) | rfl | (simp [upd, put, t7]; rfl)), ttt, rfl⟩
      · have lt : ¬ (i : Int) < (n : Int) := by omega
        repeat' (first | exact tf0 ‹_› | exact tf1 ‹_› | exact False.elim ‹_› | (with_reducible refine Al.intro ?_; intro pb hpb; (try simp only [hupd_none'] at hpb); (repeat rcases hpb with ⟨⟨hpx, hpy⟩, hpb⟩)) | with_reducible refine need ?_ | ((with_reducible first | apply frk0 | apply frk1 | apply frk2 | apply frk3 | apply frk4 | apply frk5 | apply frk6 | apply frk7 | apply frk8 | apply frk9) <;> intro h <;> try (exfalso; omega)) | with_reducible refine quiet_and ?_ ?_ | with_reducible refine awp_drawnA mixed (by decide +kernel) ?_ | ((fail_if_success with_reducible refine stp ?_); simp -implicitDefEqProofs only [go_sem, Nat.reduceEqDiff, Nat.reduceAdd, Nat.reduceLT, Nat.reduceMul, Nat.reduceSub, Nat.reduceLeDiff, ↓reduceIte, reduceCtorEq, ↓String.reduceEq, String.reduceNe, Int.reduceToNat, Int.reduceLT, Int.reduceLE, Int.reduceGT, Int.reduceGE, Int.reduceEq, Int.reduceNe, Int.reduceBEq, Int.reduceBNe, Int.reduceAdd, Int.reduceSub, Int.reduceMul, Int.reduceNeg,  *]))
        exact Again.intro rfl
    · rintro ts m2 hm2
      subst m2
      repeat' (first | exact tf0 ‹_› | exact tf1 ‹_› | exact False.elim ‹_› | (with_reducible refine Al.intro ?_; intro pb hpb; (try simp only [hupd_none'] at hpb); (repeat rcases hpb with ⟨⟨hpx, hpy⟩, hpb⟩)) | with_reducible refine need ?_ | ((with_reducible first | apply frk0 | apply frk1 | apply frk2 | apply frk3 | apply frk4 | apply frk5 | apply frk6 | apply frk7 | apply frk8 | apply frk9) <;> intro h <;> try (exfalso; omega)) | with_reducible refine quiet_and ?_ ?_ | with_reducible refine awp_drawnA mixed (by decide +kernel) ?_ | ((fail_if_success with_reducible refine stp ?_); simp -implicitDefEqProofs only [go_sem, Nat.reduceEqDiff, Nat.reduceAdd, Nat.reduceLT, Nat.reduceMul, Nat.reduceSub, Nat.reduceLeDiff, ↓reduceIte, reduceCtorEq, ↓String.reduceEq, String.reduceNe, Int.reduceToNat, Int.reduceLT, Int.reduceLE, Int.reduceGT, Int.reduceGE, Int.reduceEq, Int.reduceNe, Int.reduceBEq, Int.reduceBNe, Int.reduceAdd, Int.reduceSub, Int.reduceMul, Int.reduceNeg,  *]))
      exact ⟨_, Sub.refl _, rfl, rfl⟩
theorem any0_spec (G : Nat → AVal) (n : Nat) (hn : n ≤ 1000) (v : AVal) (m : Heap) (hs : SlM encU 1 (List.replicate n 0) v m) : CallWP Tryz.prog G 97 [v, nzV] m fun v' m' => v' = .bool false ∧ m' = m := by
  have HS := Hid.mk hs
  have hf := slm_form hs
  clear hs
  rcases hf with rfl | ⟨b, o, l, c, rfl⟩
  all_goals (
    refine callWP_body Tryz.func97 rfl (N := 9) rfl (rs := [.tmp 4]) rfl en_97 (of_decide_eq_true rfl) ?_
    repeat' (first | exact tf0 ‹_› | exact tf1 ‹_› | exact False.elim ‹_› | (with_reducible refine Al.intro ?_; intro pb hpb; (try simp only [hupd_none'] at hpb); (repeat rcases hpb with ⟨⟨hpx, hpy⟩, hpb⟩)) | with_reducible refine need ?_ | ((with_reducible first | apply frk0 | apply frk1 | apply frk2 | apply frk3 | apply frk4 | apply frk5 | apply frk6 | apply frk7 | apply frk8 | apply frk9) <;> intro h <;> try (exfalso; omega)) | with_reducible refine quiet_and ?_ ?_ | with_reducible refine awp_drawnA mixed (by decide +kernel) ?_ | ((fail_if_success with_reducible refine stp ?_); simp -implicitDefEqProofs only [go_sem, Nat.reduceEqDiff, Nat.reduceAdd, Nat.reduceLT, Nat.reduceMul, Nat.reduceSub, Nat.reduceLeDiff, ↓reduceIte, reduceCtorEq, ↓String.reduceEq, String.reduceNe, Int.reduceToNat, Int.reduceLT, Int.reduceLE, Int.reduceGT, Int.reduceGE, Int.reduceEq, Int.reduceNe, Int.reduceBEq, Int.reduceBNe, Int.reduceAdd, Int.reduceSub, Int.reduceMul, Int.reduceNeg,  *]))
    refine CallWP.to (index0_spec G n hn _ m HS.out) ?_
    repeat' (first | exact tf0 ‹_› | exact tf1 ‹_› | exact False.elim ‹_› | (with_reducible refine Al.intro ?_; intro pb hpb; (try simp only [hupd_none'] at hpb); (repeat rcases hpb with ⟨⟨hpx, hpy⟩, hpb⟩)) | with_reducible refine need ?_ | ((with_reducible first | apply frk0 | apply frk1 | apply frk2 | apply frk3 | apply frk4 | apply frk5 | apply frk6 | apply frk7 | apply frk8 | apply frk9) <;> intro h <;> try (exfalso; omega)) | with_reducible refine quiet_and ?_ ?_ | with_reducible refine awp_drawnA mixed (by decide +kernel) ?_ | ((fail_if_success with_reducible refine stp ?_); simp -implicitDefEqProofs only [go_sem, Nat.reduceEqDiff, Nat.reduceAdd, Nat.reduceLT, Nat.reduceMul, Nat.reduceSub, Nat.reduceLeDiff, ↓reduceIte, reduceCtorEq, ↓String.reduceEq, String.reduceNe, Int.reduceToNat, Int.reduceLT, Int.reduceLE, Int.reduceGT, Int.reduceGE, Int.reduceEq, Int.reduceNe, Int.reduceBEq, Int.reduceBNe, Int.reduceAdd, Int.reduceSub, Int.reduceMul, Int.reduceNeg,  *]))
    exact ⟨_, Sub.refl _, rfl, rfl⟩)
/-- The frame of which the longest one is reckoned. -/
abbrev fr0 (n : Nat) : AVal := .agg [.bool true, .int .u32 0, .bool false, .int .i64 (n : Nat), .int .u8 0, .int .u8 0, .int .u8 0, .int .u8 0, .int .u8 0, .int .u8 0, .int .u8 0, .int .u8 0]
theorem zeros_drop (n : Nat) (h : n ≤ 8) (c0 c1 c2 c3 : AVal) : ([c0, c1, c2, c3, .int .u8 0, .int .u8 0, .int .u8 0, .int .u8 0, .int .u8 0, .int .u8 0, .int .u8 0, .int .u8 0] : List AVal) = ([c0, c1, c2, c3] ++ (List.replicate n (0 : Int)).flatMap encU) ++ ((List.replicate (8 - n) (0 : Int)).flatMap encU ++ []) := by
  match n, h with
  | 0, _ | 1, _ | 2, _ | 3, _ | 4, _ | 5, _ | 6, _ | 7, _ | 8, _ => rfl
set_option maxHeartbeats 1000000 in
theorem fright_spec (G : Nat → AVal) (n : Nat) (hn : n ≤ 8) : Ans G 89 [fr0 n] (.int .i64 0) := by
  intro m
  have n1 : ¬ (n : Int) < 0 := by omega
  have n2 : ¬ 8 < (n : Int) := by omega
  have n3 : (0 : Int) ≤ (n : Int) := by omega
  have n4 : (n : Int) ≤ 8 := by omega
  refine callWP_body Tryz.func89 rfl (N := 26) rfl (rs := [.tmp 2]) rfl en_89 (of_decide_eq_true rfl) ?_
  repeat' (first | exact tf0 ‹_› | exact tf1 ‹_› | exact False.elim ‹_› | (with_reducible refine Al.intro ?_; intro pb hpb; (try simp only [hupd_none'] at hpb); (repeat rcases hpb with ⟨⟨hpx, hpy⟩, hpb⟩)) | with_reducible refine need ?_ | ((with_reducible first | apply frk0 | apply frk1 | apply frk2 | apply frk3 | apply frk4 | apply frk5 | apply frk6 | apply frk7 | apply frk8 | apply frk9) <;> intro h <;> try (exfalso; omega)) | with_reducible refine quiet_and ?_ ?_ | with_reducible refine awp_drawnA mixed (by decide +kernel) ?_ | ((fail_if_success with_reducible refine stp ?_); simp -implicitDefEqProofs only [go_sem, Nat.reduceEqDiff, Nat.reduceAdd, Nat.reduceLT, Nat.reduceMul, Nat.reduceSub, Nat.reduceLeDiff, ↓reduceIte, reduceCtorEq, ↓String.reduceEq, String.reduceNe, Int.reduceToNat, Int.reduceLT, Int.reduceLE, Int.reduceGT, Int.reduceGE, Int.reduceEq, Int.reduceNe, Int.reduceBEq, Int.reduceBNe, Int.reduceAdd, Int.reduceSub, Int.reduceMul, Int.reduceNeg,  *]))
  refine CallWP.to (iright_spec G true _) ?_
  repeat' (first | exact tf0 ‹_› | exact tf1 ‹_› | exact False.elim ‹_› | (with_reducible refine Al.intro ?_; intro pb hpb; (try simp only [hupd_none'] at hpb); (repeat rcases hpb with ⟨⟨hpx, hpy⟩, hpb⟩)) | with_reducible refine need ?_ | ((with_reducible first | apply frk0 | apply frk1 | apply frk2 | apply frk3 | apply frk4 | apply frk5 | apply frk6 | apply frk7 | apply frk8 | apply frk9) <;> intro h <;> try (exfalso; omega)) | with_reducible refine quiet_and ?_ ?_ | with_reducible refine awp_drawnA mixed (by decide +kernel) ?_ | ((fail_if_success with_reducible refine stp ?_); simp -implicitDefEqProofs only [go_sem, Nat.reduceEqDiff, Nat.reduceAdd, Nat.reduceLT, Nat.reduceMul, Nat.reduceSub, Nat.reduceLeDiff, ↓reduceIte, reduceCtorEq, ↓String.reduceEq, String.reduceNe, Int.reduceToNat, Int.reduceLT, Int.reduceLE, Int.reduceGT, Int.reduceGE, Int.reduceEq, Int.reduceNe, Int.reduceBEq, Int.reduceBNe, Int.reduceAdd, Int.reduceSub, Int.reduceMul, Int.reduceNeg,  *]))
  refine CallWP.to (any0_spec G (8 - n) (by omega) _ _ ?_) ?_
  · by_cases h8 : n = 8
    · subst h8
      exact .inr ⟨pb, _, by rw [hupd_at, if_pos rfl]; rfl, [.bool true, .int .u32 0, .bool false, .int .i64 8], [.int .u8 0, .int .u8 0, .int .u8 0, .int .u8 0, .int .u8 0, .int .u8 0, .int .u8 0, .int .u8 0], 12, 0, rfl, rfl, by decide, by decide⟩
    · rw [if_neg (by omega)]
      exact .inr ⟨pb, _, by rw [hupd_at, if_pos rfl], [.bool true, .int .u32 0, .bool false, .int .i64 (n : Nat)] ++ (List.replicate n (0 : Int)).flatMap encU, [], 12, 8 - n, by rw [List.length_replicate, List.length_append, rowU_len, List.length_replicate]; rfl, by rw [← zeros_drop n hn], by rw [List.length_append, rowU_len, List.length_replicate]; simp; omega, by simp⟩
  · repeat' (first | exact tf0 ‹_› | exact tf1 ‹_› | exact False.elim ‹_› | (with_reducible refine Al.intro ?_; intro pb hpb; (try simp only [hupd_none'] at hpb); (repeat rcases hpb with ⟨⟨hpx, hpy⟩, hpb⟩)) | with_reducible refine need ?_ | ((with_reducible first | apply frk0 | apply frk1 | apply frk2 | apply frk3 | apply frk4 | apply frk5 | apply frk6 | apply frk7 | apply frk8 | apply frk9) <;> intro h <;> try (exfalso; omega)) | with_reducible refine quiet_and ?_ ?_ | with_reducible refine awp_drawnA mixed (by decide +kernel) ?_ | ((fail_if_success with_reducible refine stp ?_); simp -implicitDefEqProofs only [go_sem, Nat.reduceEqDiff, Nat.reduceAdd, Nat.reduceLT, Nat.reduceMul, Nat.reduceSub, Nat.reduceLeDiff, ↓reduceIte, reduceCtorEq, ↓String.reduceEq, String.reduceNe, Int.reduceToNat, Int.reduceLT, Int.reduceLE, Int.reduceGT, Int.reduceGE, Int.reduceEq, Int.reduceNe, Int.reduceBEq, Int.reduceBNe, Int.reduceAdd, Int.reduceSub, Int.reduceMul, Int.reduceNeg,  *]))
    refine ⟨m, (by (repeat refine Sub.fresh ?_ (by assumption)); exact Sub.refl m), ?_, rfl⟩
    rfl
set_option maxHeartbeats 4000000 in
theorem unpack_spec (G : Nat → AVal) (C : List Int) (L : Nat) (hL : C.length = L) (hl : L ≤ 8) (v : AVal) (hv : v ≠ .nils) (m : Heap) (hs : SlM encU 1 C v m) (K : AVal → Heap → Prop) (hK : ∀ v' m', NewU m (8 * L) v' m' → K v' m') : CallWP Tryz.prog G 93 [v, .int .i64 ((8 * L : Nat) : Int)] m K := by
  rcases hs with ⟨rfl, h⟩ | ⟨b, blk, hb, pre, post, N, cap, rfl, rfl, -, -⟩
  · exact absurd rfl hv
  have H := Hid.mk (And.intro hb (And.intro hK hL))
  rw [hL]
  clear hb hK hL hv
  have w0 : IntKind.i64.wrap (8 * (L : Int)) = ((8 * L : Nat) : Int) := by rw [wrap_i64 (by omega) (by omega)]; omega
  have n1 : ¬ ((8 * L : Nat) : Int) < 0 := by omega
  have n2 : ¬ ((8 * L : Nat) : Int) < ((8 * L : Nat) : Int) := by omega
  refine callWP_body Tryz.func93 rfl (N := 33) rfl (rs := [.tmp 4]) rfl en_93 (of_decide_eq_true rfl) ?_
  repeat' (first | exact tf0 ‹_› | exact tf1 ‹_› | exact False.elim ‹_› | (with_reducible refine Al.intro ?_; intro pb hpb; (try simp only [hupd_none'] at hpb); (repeat rcases hpb with ⟨⟨hpx, hpy⟩, hpb⟩)) | with_reducible refine need ?_ | ((with_reducible first | apply frk0 | apply frk1 | apply frk2 | apply frk3 | apply frk4 | apply frk5 | apply frk6 | apply frk7 | apply frk8 | apply frk9) <;> intro h <;> try (exfalso; omega)) | with_reducible refine quiet_and ?_ ?_ | with_reducible refine awp_drawnA mixed (by decide +kernel) ?_ | ((fail_if_success with_reducible refine stp ?_); simp -implicitDefEqProofs only [go_sem, Nat.reduceEqDiff, Nat.reduceAdd, Nat.reduceLT, Nat.reduceMul, Nat.reduceSub, Nat.reduceLeDiff, ↓reduceIte, reduceCtorEq, ↓String.reduceEq, String.reduceNe, Int.reduceToNat, Int.reduceLT, Int.reduceLE, Int.reduceGT, Int.reduceGE, Int.reduceEq, Int.reduceNe, Int.reduceBEq, Int.reduceBNe, Int.reduceAdd, Int.reduceSub, Int.reduceMul, Int.reduceNeg,  *]))
  refine awp_loopP 0 (fun ts m' => ∃ v : AVal, Hid (∃ D : List Int, D.length = 8 * L ∧ SlM encU 1 D v m' ∧ Sub m m' ∧ ∀ x, bOf v = some x → m x = none) ∧ ts 5 = v ∧ ts 1 = .int .i64 ((8 * L : Nat) : Int))
    (fun k ts m' => ∃ (v : AVal) (i : Nat), Hid (k = L - i ∧ i ≤ L ∧ ∃ D : List Int, D.length = 8 * i ∧ SlM encU 1 D v m' ∧ Sub m m' ∧ ∀ x, bOf v = some x → m x = none) ∧ ts 5 = v ∧ ts 1 = .int .i64 ((8 * L : Nat) : Int) ∧ ts 17 = .slice b pre.length L cap ∧ ts 18 = .int .i64 (L : Nat) ∧ ts 19 = .int .i64 (i : Nat)) L
    ⟨.nils, 0, .mk ⟨rfl, Nat.zero_le _, [], rfl, .inl ⟨rfl, rfl⟩, Sub.refl _, fun x hx => by simp [bOf] at hx⟩, ttt, ttt, ttt, ttt, ttt⟩ ?_ ?_
  · rintro k ts m2 ⟨v, i, HI, t5, t1, t17, t18, t19⟩
    by_cases hi : i < L
    · have lt : (i : Int) < (L : Int) := by omega
      obtain ⟨hk0, hiL, D, hD, hsv, hsub, hfr⟩ := HI.out
      have hb2 := hsub _ _ H.out.1
      have hiC : i < C.length := by rw [H.out.2.2]; exact hi
      obtain ⟨x, hx⟩ : ∃ x, C.getD i 0 = x := ⟨_, rfl⟩
      have g1 := rowp_at C pre post i hiC x hx
      have l1 := rowp_len C pre post i hiC
      have w1 : IntKind.i64.wrap ((i : Int) + 1) = ((i + 1 : Nat) : Int) := by rw [wrap_i64 (by omega) (by omega)]; omega
      have HD := Hid.mk (And.intro hD (And.intro hsv (And.intro hsub hfr)))
      clear hk0 hiL hD hsv hsub hfr hiC hx
      repeat' (first | exact tf0 ‹_› | exact tf1 ‹_› | exact False.elim ‹_› | (with_reducible refine Al.intro ?_; intro pb hpb; (try simp only [hupd_none'] at hpb); (repeat rcases hpb with ⟨⟨hpx, hpy⟩, hpb⟩)) | with_reducible refine need ?_ | ((with_reducible first | apply frk0 | apply frk1 | apply frk2 | apply frk3 | apply frk4 | apply frk5 | apply frk6 | apply frk7 | apply frk8 | apply frk9) <;> intro h <;> try (exfalso; omega)) | with_reducible refine quiet_and ?_ ?_ | with_reducible refine awp_drawnA mixed (by decide +kernel) ?_ | ((fail_if_success with_reducible refine stp ?_); simp -implicitDefEqProofs only [go_sem, Nat.reduceEqDiff, Nat.reduceAdd, Nat.reduceLT, Nat.reduceMul, Nat.reduceSub, Nat.reduceLeDiff, ↓reduceIte, reduceCtorEq, ↓String.reduceEq, String.reduceNe, Int.reduceToNat, Int.reduceLT, Int.reduceLE, Int.reduceGT, Int.reduceGE, Int.reduceEq, Int.reduceNe, Int.reduceBEq, Int.reduceBNe, Int.reduceAdd, Int.reduceSub, Int.reduceMul, Int.reduceNeg,  *]))
      refine of_spec G _ 8 (by omega) (by omega) m2 _ (fun b5 m5 h5 => ?_)
      obtain ⟨E, hE, hs5, sub5, fr5⟩ := h5
      have HE := Hid.mk (And.intro hE (And.intro hs5 (And.intro sub5 fr5)))
      clear hE hs5 sub5 fr5
      repeat' (first | exact tf0 ‹_› | exact tf1 ‹_› | exact False.elim ‹_› | (with_reducible refine Al.intro ?_; intro pb hpb; (try simp only [hupd_none'] at hpb); (repeat rcases hpb with ⟨⟨hpx, hpy⟩, hpb⟩)) | with_reducible refine need ?_ | ((with_reducible first | apply frk0 | apply frk1 | apply frk2 | apply frk3 | apply frk4 | apply frk5 | apply frk6 | apply frk7 | apply frk8 | apply frk9) <;> intro h <;> try (exfalso; omega)) | with_reducible refine quiet_and ?_ ?_ | with_reducible refine awp_drawnA mixed (by decide +kernel) ?_ | ((fail_if_success with_reducible refine stp ?_); simp -implicitDefEqProofs only [go_sem, Nat.reduceEqDiff, Nat.reduceAdd, Nat.reduceLT, Nat.reduceMul, Nat.reduceSub, Nat.reduceLeDiff, ↓reduceIte, reduceCtorEq, ↓String.reduceEq, String.reduceNe, Int.reduceToNat, Int.reduceLT, Int.reduceLE, Int.reduceGT, Int.reduceGE, Int.reduceEq, Int.reduceNe, Int.reduceBEq, Int.reduceBNe, Int.reduceAdd, Int.reduceSub, Int.reduceMul, Int.reduceNeg,  *]))
      have e8 : E.length = 8 := HE.out.1
      have hs5' : SlM encU 1 E (.slice b5 0 8 8) m5 := HE.out.2.1
      refine appV (enc := encU) (sz := 1) (C := D) (E := E) Tryz.underlying132 tk_5 eb_5 zl_5 (by decide) (by rw [Tryz.underlying132]; rfl) (by unfold isInt; rw [Tryz.underlying132]) encU_len (by rw [List.all_eq_true]; intro x hx; obtain ⟨y, -, hy⟩ := List.mem_flatMap.1 hx; rw [List.mem_singleton.1 hy]; rfl) hs5' (HD.out.2.1.into HE.out.2.2.1) (by have := HD.out.1; omega) (fun v6 m6 h1 h2 => ?_)
      obtain ⟨k1, k2⟩ := h2.sub (mb := m) (fun p y hp => HE.out.2.2.1 _ _ (HD.out.2.2.1 _ _ hp)) HD.out.2.2.2
      have HN := Hid.mk (And.intro h1 (And.intro k1 k2))
      clear h1 h2 k1 k2 hs5'
      have hne : (D ++ E).length = 8 * (i + 1) := by rw [List.length_append, HD.out.1, e8]; omega
      have HNE := Hid.mk hne
      clear e8 hne
      repeat' (first | exact tf0 ‹_› | exact tf1 ‹_› | exact False.elim ‹_› | (with_reducible refine Al.intro ?_; intro pb hpb; (try simp only [hupd_none'] at hpb); (repeat rcases hpb with ⟨⟨hpx, hpy⟩, hpb⟩)) | with_reducible refine need ?_ | ((with_reducible first | apply frk0 | apply frk1 | apply frk2 | apply frk3 | apply frk4 | apply frk5 | apply frk6 | apply frk7 | apply frk8 | apply frk9) <;> intro h <;> try (exfalso; omega)) | with_reducible refine quiet_and ?_ ?_ | with_reducible refine awp_drawnA mixed (by decide +kernel) ?_ | ((fail_if_success with_reducible refine stp ?_); simp -implicitDefEqProofs only [go_sem, Nat.reduceEqDiff, Nat.reduceAdd, Nat.reduceLT, Nat.reduceMul, Nat.reduceSub, Nat.reduceLeDiff, ↓reduceIte, reduceCtorEq, ↓String.reduceEq, String.reduceNe, Int.reduceToNat, Int.reduceLT, Int.reduceLE, Int.reduceGT, Int.reduceGE, Int.reduceEq, Int.reduceNe, Int.reduceBEq, Int.reduceBNe, Int.reduceAdd, Int.reduceSub, Int.reduceMul, Int.reduceNeg,  *]))
      exact Again.intro ⟨L - (i + 1), by have := HI.out; omega, _, Sub.refl _, v6, i + 1, .mk ⟨rfl, by omega, D ++ E, HNE.out, HN.out.1, HN.out.2.1, HN.out.2.2⟩, ttt, (by first | (simp only [upd, put, Nat.reduceEqDiff, ↓reduceIte, t1]; done) | (simp [upd, put, t1]; done) | rfl | (simp [upd, put, t1]; rfl)), (by first | (simp only [upd, put, Nat.reduceEqDiff, ↓reduceIte, t17]; done) | (simp [upd, put, t17]; done) | rfl | (simp [upd, put, t17]; rfl)), (by first | (simp only [upd, put, Nat.reduceEqDiff, ↓reduceIte, t18]; done) | (simp [upd, put, t18]; done) | rfl | (simp [upd, put, t18]; rfl)), ttt⟩
    · have lt : ¬ (i : Int) < (L : Int) := by omega
      repeat' (first | exact tf0 ‹_› | exact tf1 ‹_› | exact False.elim ‹_› | (with_reducible refine Al.intro ?_; intro pb hpb; (try simp only [hupd_none'] at hpb); (repeat rcases hpb with ⟨⟨hpx, hpy⟩, hpb⟩)) | with_reducible refine need ?_ | ((with_reducible first | apply frk0 | apply frk1 | apply frk2 | apply frk3 | apply frk4 | apply frk5 | apply frk6 | apply frk7 | apply frk8 | apply frk9) <;> intro h <;> try (exfalso; omega)) | with_reducible refine quiet_and ?_ ?_ | with_reducible refine awp_drawnA mixed (by decide +kernel) ?_ | ((fail_if_success with_reducible refine stp ?_); simp -implicitDefEqProofs only [go_sem, Nat.reduceEqDiff, Nat.reduceAdd, Nat.reduceLT, Nat.reduceMul, Nat.reduceSub, Nat.reduceLeDiff, ↓reduceIte, reduceCtorEq, ↓String.reduceEq, String.reduceNe, Int.reduceToNat, Int.reduceLT, Int.reduceLE, Int.reduceGT, Int.reduceGE, Int.reduceEq, Int.reduceNe, Int.reduceBEq, Int.reduceBNe, Int.reduceAdd, Int.reduceSub, Int.reduceMul, Int.reduceNeg,  *]))
      exact Again.intro ⟨v, .mk (by obtain ⟨a, b, D, c, d⟩ := HI.out; exact ⟨D, by omega, d⟩), (by first | (simp only [upd, put, Nat.reduceEqDiff, ↓reduceIte, t5]; done) | (simp [upd, put, t5]; done) | rfl | (simp [upd, put, t5]; rfl)), (by first | (simp only [upd, put, Nat.reduceEqDiff, ↓reduceIte, t1]; done) | (simp [upd, put, t1]; done) | rfl | (simp [upd, put, t1]; rfl))⟩
  · rintro ts m2 ⟨v, HI, t5, t1⟩
    obtain ⟨D, hD, hsv, hsub, hfr⟩ := HI.out
    have n3 : (0 : Int) ≤ ((8 * L : Nat) : Int) := by omega
    have z8 : ((8 * L : Nat) : Int).toNat = 8 * L := by omega
    rcases hsv with ⟨rfl, rfl⟩ | ⟨b2, blk2, hb2, pre2, post2, N2, cap2, rfl, rfl, hN2, hc2⟩
    · obtain rfl : L = 0 := by simp at hD; omega
      repeat' (first | exact tf0 ‹_› | exact tf1 ‹_› | exact False.elim ‹_› | (with_reducible refine Al.intro ?_; intro pb hpb; (try simp only [hupd_none'] at hpb); (repeat rcases hpb with ⟨⟨hpx, hpy⟩, hpb⟩)) | with_reducible refine need ?_ | ((with_reducible first | apply frk0 | apply frk1 | apply frk2 | apply frk3 | apply frk4 | apply frk5 | apply frk6 | apply frk7 | apply frk8 | apply frk9) <;> intro h <;> try (exfalso; omega)) | with_reducible refine quiet_and ?_ ?_ | with_reducible refine awp_drawnA mixed (by decide +kernel) ?_ | ((fail_if_success with_reducible refine stp ?_); simp -implicitDefEqProofs only [go_sem, Nat.reduceEqDiff, Nat.reduceAdd, Nat.reduceLT, Nat.reduceMul, Nat.reduceSub, Nat.reduceLeDiff, ↓reduceIte, reduceCtorEq, ↓String.reduceEq, String.reduceNe, Int.reduceToNat, Int.reduceLT, Int.reduceLE, Int.reduceGT, Int.reduceGE, Int.reduceEq, Int.reduceNe, Int.reduceBEq, Int.reduceBNe, Int.reduceAdd, Int.reduceSub, Int.reduceMul, Int.reduceNeg,  *]))
      refine ⟨_, Sub.refl _, ?_⟩
      exact H.out.2.1 _ _ ⟨[], rfl, .inl ⟨rfl, rfl⟩, hsub, fun x hx => by simp [bOf] at hx⟩
    · have HD := Hid.mk (And.intro hD (And.intro hb2 (And.intro hsub (And.intro hfr (And.intro hN2 hc2)))))
      rw [hD] at t5
      have c8 : ((8 * L : Nat) : Int) ≤ (cap2 : Int) := by omega
      clear hD hsub hfr hN2 hc2 hb2
      repeat' (first | exact tf0 ‹_› | exact tf1 ‹_› | exact False.elim ‹_› | (with_reducible refine Al.intro ?_; intro pb hpb; (try simp only [hupd_none'] at hpb); (repeat rcases hpb with ⟨⟨hpx, hpy⟩, hpb⟩)) | with_reducible refine need ?_ | ((with_reducible first | apply frk0 | apply frk1 | apply frk2 | apply frk3 | apply frk4 | apply frk5 | apply frk6 | apply frk7 | apply frk8 | apply frk9) <;> intro h <;> try (exfalso; omega)) | with_reducible refine quiet_and ?_ ?_ | with_reducible refine awp_drawnA mixed (by decide +kernel) ?_ | ((fail_if_success with_reducible refine stp ?_); simp -implicitDefEqProofs only [go_sem, Nat.reduceEqDiff, Nat.reduceAdd, Nat.reduceLT, Nat.reduceMul, Nat.reduceSub, Nat.reduceLeDiff, ↓reduceIte, reduceCtorEq, ↓String.reduceEq, String.reduceNe, Int.reduceToNat, Int.reduceLT, Int.reduceLE, Int.reduceGT, Int.reduceGE, Int.reduceEq, Int.reduceNe, Int.reduceBEq, Int.reduceBNe, Int.reduceAdd, Int.reduceSub, Int.reduceMul, Int.reduceNeg,  acap, Int.sub_zero, *]))
      rw [show (if ((8 * L : Nat) : Int) = 0 then pre2.length else pre2.length) = pre2.length by split <;> rfl]
      obtain ⟨f1, f2, f3, f4, f5, f6⟩ := HD.out
      exact ⟨m2, Sub.refl _, H.out.2.1 _ _ ⟨D, f1, .inr ⟨b2, _, f2, pre2, post2, N2, 8 * L, by rw [f1], rfl, by omega, by omega⟩, f3, f4⟩⟩
end Go.Proofs.YtdckcophbmnjjaaGreatDoor
namespace Go.Proofs.YtdckcophbmnjjaaGreatDoor
open Go Go.Proofs.YtdckcophbmnjjaaGreatDoor.Ab
open Go.Proofs (Tryz.prog)
set_option maxRecDepth 100000
/-- A new row, and how it is told. -/
def NewS (n : Nat) (m : Heap) (v : AVal) (m' : Heap) : Prop := (∃ b, v = .slice b 0 n n) ∧ NewU m n v m'
theorem newS_frame (n : Nat) (hn : 0 < n) : FrameOK (NewS n) := by
  refine ⟨fun m v m' h p x hp => ?_, fun m v m' b z h hb => ?_⟩
  · obtain ⟨-, C, -, -, hs, -⟩ := h
    exact hs _ _ hp
  · obtain ⟨⟨b0, rfl⟩, C, hC, hs, hsub, hfr⟩ := h
    refine ⟨⟨b0, rfl⟩, C, hC, hs.fresh hb, fun p x hp => ?_, fun c hc => ?_⟩
    · by_cases e : p = b
      · subst e; simpa [hupd] using hp
      · simp only [hupd, if_neg e] at hp ⊢; exact hsub _ _ hp
    · simp only [bOf, Option.some.injEq] at hc
      subst hc
      obtain ⟨b', pre, post, N, cap, hb', he, -⟩ := hs.at' (by omega)
      injection he with h1 h2 h3 h4
      subst h1
      have hne : b0 ≠ b := fun e => by rw [e] at hb'; rw [hb'] at hb; exact absurd hb (by simp)
      simp only [hupd, if_neg hne]
      exact hfr _ rfl
set_option maxHeartbeats 4000000 in
theorem body_spec (G : Nat → AVal) (hG : DivOK G) (n : Nat) (hn : n ≤ 8) (m : Heap) (K : AVal → Heap → Prop) (hK : ∀ v' m', NewU m (54 + 8 * n) v' m' → K v' m') : CallWP Tryz.prog G 83 [fr0 n] m K := by
  have HK := Hid.mk (And.intro hK hG)
  clear hK hG
  have w1 : IntKind.i64.wrap (1 + 1) = 2 := by decide
  have w2 : IntKind.i64.wrap 2 = 2 := by decide
  have u0 : IntKind.u64.wrap (n : Int) = (n : Nat) := wrap_u64' (by omega) (by omega)
  have w8 : IntKind.i64.wrap (8 * (n : Int)) = ((8 * n : Nat) : Int) := by rw [wrap_i64 (by omega) (by omega)]; omega
  refine callWP_body Tryz.func83 rfl (N := 42) rfl (rs := [.tmp 2]) rfl en_83 (of_decide_eq_true rfl) ?_
  repeat' (first | exact tf0 ‹_› | exact tf1 ‹_› | exact False.elim ‹_› | (with_reducible refine Al.intro ?_; intro pb hpb; (try simp only [hupd_none'] at hpb); (repeat rcases hpb with ⟨⟨hpx, hpy⟩, hpb⟩)) | with_reducible refine need ?_ | ((with_reducible first | apply frk0 | apply frk1 | apply frk2 | apply frk3 | apply frk4 | apply frk5 | apply frk6 | apply frk7 | apply frk8 | apply frk9) <;> intro h <;> try (exfalso; omega)) | with_reducible refine quiet_and ?_ ?_ | with_reducible refine awp_drawnA mixed (by decide +kernel) ?_ | ((fail_if_success with_reducible refine stp ?_); simp -implicitDefEqProofs only [go_sem, Nat.reduceEqDiff, Nat.reduceAdd, Nat.reduceLT, Nat.reduceMul, Nat.reduceSub, Nat.reduceLeDiff, ↓reduceIte, reduceCtorEq, ↓String.reduceEq, String.reduceNe, Int.reduceToNat, Int.reduceLT, Int.reduceLE, Int.reduceGT, Int.reduceGE, Int.reduceEq, Int.reduceNe, Int.reduceBEq, Int.reduceBNe, Int.reduceAdd, Int.reduceSub, Int.reduceMul, Int.reduceNeg,  *]))
  refine CallWP.to (fright_spec G n hn _) ?_
  repeat' (first | exact tf0 ‹_› | exact tf1 ‹_› | exact False.elim ‹_› | (with_reducible refine Al.intro ?_; intro pb hpb; (try simp only [hupd_none'] at hpb); (repeat rcases hpb with ⟨⟨hpx, hpy⟩, hpb⟩)) | with_reducible refine need ?_ | ((with_reducible first | apply frk0 | apply frk1 | apply frk2 | apply frk3 | apply frk4 | apply frk5 | apply frk6 | apply frk7 | apply frk8 | apply frk9) <;> intro h <;> try (exfalso; omega)) | with_reducible refine quiet_and ?_ ?_ | with_reducible refine awp_drawnA mixed (by decide +kernel) ?_ | ((fail_if_success with_reducible refine stp ?_); simp -implicitDefEqProofs only [go_sem, Nat.reduceEqDiff, Nat.reduceAdd, Nat.reduceLT, Nat.reduceMul, Nat.reduceSub, Nat.reduceLeDiff, ↓reduceIte, reduceCtorEq, ↓String.reduceEq, String.reduceNe, Int.reduceToNat, Int.reduceLT, Int.reduceLE, Int.reduceGT, Int.reduceGE, Int.reduceEq, Int.reduceNe, Int.reduceBEq, Int.reduceBNe, Int.reduceAdd, Int.reduceSub, Int.reduceMul, Int.reduceNeg,  *]))
  refine awp_drawnT [(0, .q), (1, .q), (2, .q), (3, .q), (4, .q), (6, .q), (7, .q), (8, .q), (9, .q), (10, .q), (5, .t), (11, .t), (12, .q), (13, .e), (14, .q)] (fun _ => .undef) (fun _ => False) (fun _ _ => False) (fun i => NewS (if i = 5 then 32 else 4)) rfl (by decide) ?_
  repeat' (first | exact tf0 ‹_› | exact tf1 ‹_› | exact False.elim ‹_› | (with_reducible refine Al.intro ?_; intro pb hpb; (try simp only [hupd_none'] at hpb); (repeat rcases hpb with ⟨⟨hpx, hpy⟩, hpb⟩)) | with_reducible refine need ?_ | ((with_reducible first | apply frk0 | apply frk1 | apply frk2 | apply frk3 | apply frk4 | apply frk5 | apply frk6 | apply frk7 | apply frk8 | apply frk9) <;> intro h <;> try (exfalso; omega)) | with_reducible refine quiet_and ?_ ?_ | with_reducible refine awp_drawnA mixed (by decide +kernel) ?_ | ((fail_if_success with_reducible refine stp ?_); simp -implicitDefEqProofs only [go_sem, Nat.reduceEqDiff, Nat.reduceAdd, Nat.reduceLT, Nat.reduceMul, Nat.reduceSub, Nat.reduceLeDiff, ↓reduceIte, reduceCtorEq, ↓String.reduceEq, String.reduceNe, Int.reduceToNat, Int.reduceLT, Int.reduceLE, Int.reduceGT, Int.reduceGE, Int.reduceEq, Int.reduceNe, Int.reduceBEq, Int.reduceBNe, Int.reduceAdd, Int.reduceSub, Int.reduceMul, Int.reduceNeg,  *]))
  rename_i p0 e0 p1 e1 n10 n01 n21 n12
  have q0 : hupd (hupd (hupd m p0 (.cells [.bool true, .int .u32 0, .bool false, .int .i64 (n : Nat), .int .u8 0, .int .u8 0, .int .u8 0, .int .u8 0, .int .u8 0, .int .u8 0, .int .u8 0, .int .u8 0] 12)) p1 (.cells [.int .u8 0] 1)) pb (.cells [.int .u8 0, .int .u8 0] 2) p0 = some (.cells [.bool true, .int .u32 0, .bool false, .int .i64 (n : Nat), .int .u8 0, .int .u8 0, .int .u8 0, .int .u8 0, .int .u8 0, .int .u8 0, .int .u8 0, .int .u8 0] 12) := by simp [hupd, n01, hpy, hpx, n10]
  have q1 : hupd (hupd (hupd m p0 (.cells [.bool true, .int .u32 0, .bool false, .int .i64 (n : Nat), .int .u8 0, .int .u8 0, .int .u8 0, .int .u8 0, .int .u8 0, .int .u8 0, .int .u8 0, .int .u8 0] 12)) p1 (.cells [.int .u8 0] 1)) pb (.cells [.int .u8 0, .int .u8 0] 2) p1 = some (.cells [.int .u8 0] 1) := by simp [hupd, n12, n21]
  have q2 : hupd (hupd (hupd m p0 (.cells [.bool true, .int .u32 0, .bool false, .int .i64 (n : Nat), .int .u8 0, .int .u8 0, .int .u8 0, .int .u8 0, .int .u8 0, .int .u8 0, .int .u8 0, .int .u8 0] 12)) p1 (.cells [.int .u8 0] 1)) pb (.cells [.int .u8 0, .int .u8 0] 2) pb = some (.cells [.int .u8 0, .int .u8 0] 2) := by simp [hupd]
  have qs : Sub m (hupd (hupd (hupd m p0 (.cells [.bool true, .int .u32 0, .bool false, .int .i64 (n : Nat), .int .u8 0, .int .u8 0, .int .u8 0, .int .u8 0, .int .u8 0, .int .u8 0, .int .u8 0, .int .u8 0] 12)) p1 (.cells [.int .u8 0] 1)) pb (.cells [.int .u8 0, .int .u8 0] 2)) := (((Sub.refl _).fresh e0).fresh e1).fresh hpb
  have HQ := Hid.mk (And.intro q0 (And.intro q1 (And.intro q2 qs)))
  clear q0 q1 q2 qs
  refine ToldA.of (fun m1 st1 => ?_) (newS_frame 32 (by omega)) (fun v5 m5 h5 => ?_)
  · repeat' (first | exact tf0 ‹_› | exact tf1 ‹_› | exact False.elim ‹_› | (with_reducible refine Al.intro ?_; intro pb hpb; (try simp only [hupd_none'] at hpb); (repeat rcases hpb with ⟨⟨hpx, hpy⟩, hpb⟩)) | with_reducible refine need ?_ | ((with_reducible first | apply frk0 | apply frk1 | apply frk2 | apply frk3 | apply frk4 | apply frk5 | apply frk6 | apply frk7 | apply frk8 | apply frk9) <;> intro h <;> try (exfalso; omega)) | with_reducible refine quiet_and ?_ ?_ | with_reducible refine awp_drawnA mixed (by decide +kernel) ?_ | ((fail_if_success with_reducible refine stp ?_); simp -implicitDefEqProofs only [go_sem, Nat.reduceEqDiff, Nat.reduceAdd, Nat.reduceLT, Nat.reduceMul, Nat.reduceSub, Nat.reduceLeDiff, ↓reduceIte, reduceCtorEq, ↓String.reduceEq, String.reduceNe, Int.reduceToNat, Int.reduceLT, Int.reduceLE, Int.reduceGT, Int.reduceGE, Int.reduceEq, Int.reduceNe, Int.reduceBEq, Int.reduceBNe, Int.reduceAdd, Int.reduceSub, Int.reduceMul, Int.reduceNeg,  *]))
    exact bits_spec G m1 _ (fun b m' h => ⟨⟨b, rfl⟩, h⟩)
  obtain ⟨⟨b5, rfl⟩, C5, hC5, hs5, sub5, fr5⟩ := h5
  have H5 := Hid.mk (And.intro hC5 (And.intro hs5 (And.intro sub5 fr5)))
  clear hC5 hs5 sub5 fr5
  repeat' (first | exact tf0 ‹_› | exact tf1 ‹_› | exact False.elim ‹_› | (with_reducible refine Al.intro ?_; intro pb hpb; (try simp only [hupd_none'] at hpb); (repeat rcases hpb with ⟨⟨hpx, hpy⟩, hpb⟩)) | with_reducible refine need ?_ | ((with_reducible first | apply frk0 | apply frk1 | apply frk2 | apply frk3 | apply frk4 | apply frk5 | apply frk6 | apply frk7 | apply frk8 | apply frk9) <;> intro h <;> try (exfalso; omega)) | with_reducible refine quiet_and ?_ ?_ | with_reducible refine awp_drawnA mixed (by decide +kernel) ?_ | ((fail_if_success with_reducible refine stp ?_); simp -implicitDefEqProofs only [go_sem, Nat.reduceEqDiff, Nat.reduceAdd, Nat.reduceLT, Nat.reduceMul, Nat.reduceSub, Nat.reduceLeDiff, ↓reduceIte, reduceCtorEq, ↓String.reduceEq, String.reduceNe, Int.reduceToNat, Int.reduceLT, Int.reduceLE, Int.reduceGT, Int.reduceGE, Int.reduceEq, Int.reduceNe, Int.reduceBEq, Int.reduceBNe, Int.reduceAdd, Int.reduceSub, Int.reduceMul, Int.reduceNeg,  *]))
  refine ToldA.of (fun m1 st1 => ?_) (newS_frame 4 (by omega)) (fun v6 m6 h6 => ?_)
  · repeat' (first | exact tf0 ‹_› | exact tf1 ‹_› | exact False.elim ‹_› | (with_reducible refine Al.intro ?_; intro pb hpb; (try simp only [hupd_none'] at hpb); (repeat rcases hpb with ⟨⟨hpx, hpy⟩, hpb⟩)) | with_reducible refine need ?_ | ((with_reducible first | apply frk0 | apply frk1 | apply frk2 | apply frk3 | apply frk4 | apply frk5 | apply frk6 | apply frk7 | apply frk8 | apply frk9) <;> intro h <;> try (exfalso; omega)) | with_reducible refine quiet_and ?_ ?_ | with_reducible refine awp_drawnA mixed (by decide +kernel) ?_ | ((fail_if_success with_reducible refine stp ?_); simp -implicitDefEqProofs only [go_sem, Nat.reduceEqDiff, Nat.reduceAdd, Nat.reduceLT, Nat.reduceMul, Nat.reduceSub, Nat.reduceLeDiff, ↓reduceIte, reduceCtorEq, ↓String.reduceEq, String.reduceNe, Int.reduceToNat, Int.reduceLT, Int.reduceLE, Int.reduceGT, Int.reduceGE, Int.reduceEq, Int.reduceNe, Int.reduceBEq, Int.reduceBNe, Int.reduceAdd, Int.reduceSub, Int.reduceMul, Int.reduceNeg,  *]))
    exact of_spec G _ 4 (by omega) (by omega) m1 _ (fun b m' h => ⟨⟨b, rfl⟩, h⟩)
  obtain ⟨⟨b6, rfl⟩, C6, hC6, hs6, sub6, fr6⟩ := h6
  have H6 := Hid.mk (And.intro hC6 (And.intro hs6 (And.intro sub6 fr6)))
  have r0 := sub6 _ _ (H5.out.2.2.1 _ _ HQ.out.1)
  have r1 := sub6 _ _ (H5.out.2.2.1 _ _ HQ.out.2.1)
  have r2 := sub6 _ _ (H5.out.2.2.1 _ _ HQ.out.2.2.1)
  have hs : Sub m m6 := fun p x h => sub6 _ _ (H5.out.2.2.1 _ _ (HQ.out.2.2.2 _ _ h))
  have s5 : SlM encU 1 C5 (.slice b5 0 32 32) m6 := H5.out.2.1.into sub6
  have HR := Hid.mk (And.intro r0 (And.intro r1 (And.intro r2 (And.intro hs (And.intro H5.out.1 (And.intro s5 (And.intro hC6 hs6)))))))
  clear hC6 hs6 sub6 fr6 r0 r1 r2 hs s5 H5 H6 HQ e0 e1 n10 n01 n21 n12 hpb hpx hpy
  generalize pb = p2 at HR ⊢
  have rp : rep 4 [AVal.nils] = [.nils, .nils, .nils, .nils] := rfl
  repeat' (first | exact tf0 ‹_› | exact tf1 ‹_› | exact False.elim ‹_› | (with_reducible refine Al.intro ?_; intro pb hpb; (try simp only [hupd_none'] at hpb); (repeat rcases hpb with ⟨⟨hpx, hpy⟩, hpb⟩)) | with_reducible refine need ?_ | ((with_reducible first | apply frk0 | apply frk1 | apply frk2 | apply frk3 | apply frk4 | apply frk5 | apply frk6 | apply frk7 | apply frk8 | apply frk9) <;> intro h <;> try (exfalso; omega)) | with_reducible refine quiet_and ?_ ?_ | with_reducible refine awp_drawnA mixed (by decide +kernel) ?_ | ((fail_if_success with_reducible refine stp ?_); simp -implicitDefEqProofs only [go_sem, Nat.reduceEqDiff, Nat.reduceAdd, Nat.reduceLT, Nat.reduceMul, Nat.reduceSub, Nat.reduceLeDiff, ↓reduceIte, reduceCtorEq, ↓String.reduceEq, String.reduceNe, Int.reduceToNat, Int.reduceLT, Int.reduceLE, Int.reduceGT, Int.reduceGE, Int.reduceEq, Int.reduceNe, Int.reduceBEq, Int.reduceBNe, Int.reduceAdd, Int.reduceSub, Int.reduceMul, Int.reduceNeg,  *]))
  have hsub : Sub m6 (hupd m6 pb (.cells [.slice p1 0 1 1, .slice b5 0 32 32, .slice p2 0 2 2, .slice b6 0 4 4] 4)) := (Sub.refl _).fresh hpb
  have hrows : RowsU [[0], C5, [0, 0], C6] [.slice p1 0 1 1, .slice b5 0 32 32, .slice p2 0 2 2, .slice b6 0 4 4] (hupd m6 pb (.cells [.slice p1 0 1 1, .slice b5 0 32 32, .slice p2 0 2 2, .slice b6 0 4 4] 4)) := by
    refine ⟨rfl, fun i hi => ?_⟩
    obtain ⟨a0, a1, a2, a3, a4, a5, a6, a7⟩ := HR.out
    match i, hi with
    | 0, _ => exact .inr ⟨p1, _, hsub _ _ a1, [], [], 1, 1, rfl, rfl, by decide, Nat.le_refl 1⟩
    | 1, _ => exact a5.into hsub
    | 2, _ => exact .inr ⟨p2, _, hsub _ _ a2, [], [], 2, 2, rfl, rfl, by decide, Nat.le_refl 2⟩
    | 3, _ => exact a7.into hsub
    | n + 4, h => exact absurd h (by simp)
  have hfl : ([[0], C5, [0, 0], C6] : List (List Int)).flatten.length = 39 := by
    simp [HR.out.2.2.2.2.1, HR.out.2.2.2.2.2.2.1]
  have hb0 := hsub _ _ HR.out.1
  have hsm : Sub m (hupd m6 pb (.cells [.slice p1 0 1 1, .slice b5 0 32 32, .slice p2 0 2 2, .slice b6 0 4 4] 4)) := fun p x h => hsub _ _ (HR.out.2.2.2.1 _ _ h)
  refine concat_spec G [[0], C5, [0, 0], C6] _ pb 4 4 _ (by simp [hupd]) hrows (by simp) (by rw [hfl]; omega) (by rw [hfl]; omega) (fun i hi => ?_) _ (fun v7 m7 h7 => ?_)
  · match i, hi with
    | 0, _ => exact List.cons_ne_nil _ _
    | 1, _ => exact fun h => absurd HR.out.2.2.2.2.1 (by have h : C5 = [] := h; rw [h]; decide)
    | 2, _ => exact List.cons_ne_nil _ _
    | 3, _ => exact fun h => absurd HR.out.2.2.2.2.2.2.1 (by have h : C6 = [] := h; rw [h]; decide)
    | n + 4, h => exact absurd h (by simp)
  rw [hfl] at h7
  obtain ⟨C7, hC7, hs7, sub7, fr7⟩ := h7
  have k0 := sub7 _ _ hb0
  have k1 : Sub m m7 := fun p x h => sub7 _ _ (hsm _ _ h)
  have k2 : ∀ b, bOf v7 = some b → m b = none := fun b hb => by
    cases hm : m b with
    | none => rfl
    | some x => exact absurd (hsm _ _ hm) (by rw [fr7 b hb]; simp)
  obtain ⟨b7, o7, c7, rfl⟩ : ∃ b o c, v7 = .slice b o 39 c := by
    rcases hs7.slv with ⟨h1, h2⟩ | h
    · rw [h2] at hC7; exact absurd hC7 (by decide)
    · rw [hC7] at h; exact h
  have H7 := Hid.mk (And.intro hC7 (And.intro hs7 (And.intro k1 k2)))
  clear hC7 hs7 sub7 fr7 hsm hb0 hfl hrows hsub HR k1 k2 rp hpb
  repeat' (first | exact tf0 ‹_› | exact tf1 ‹_› | exact False.elim ‹_› | (with_reducible refine Al.intro ?_; intro pb hpb; (try simp only [hupd_none'] at hpb); (repeat rcases hpb with ⟨⟨hpx, hpy⟩, hpb⟩)) | with_reducible refine need ?_ | ((with_reducible first | apply frk0 | apply frk1 | apply frk2 | apply frk3 | apply frk4 | apply frk5 | apply frk6 | apply frk7 | apply frk8 | apply frk9) <;> intro h <;> try (exfalso; omega)) | with_reducible refine quiet_and ?_ ?_ | with_reducible refine awp_drawnA mixed (by decide +kernel) ?_ | ((fail_if_success with_reducible refine stp ?_); simp -implicitDefEqProofs only [go_sem, Nat.reduceEqDiff, Nat.reduceAdd, Nat.reduceLT, Nat.reduceMul, Nat.reduceSub, Nat.reduceLeDiff, ↓reduceIte, reduceCtorEq, ↓String.reduceEq, String.reduceNe, Int.reduceToNat, Int.reduceLT, Int.reduceLE, Int.reduceGT, Int.reduceGE, Int.reduceEq, Int.reduceNe, Int.reduceBEq, Int.reduceBNe, Int.reduceAdd, Int.reduceSub, Int.reduceMul, Int.reduceNeg,  *]))
  refine unpack_spec G (List.replicate n 0) n List.length_replicate hn _ (by simp) m7 (.inr ⟨p0, _, k0, [.bool true, .int .u32 0, .bool false, .int .i64 (n : Nat)], (List.replicate (8 - n) (0 : Int)).flatMap encU ++ [], 12, 8, by rw [List.length_replicate]; rfl, by rw [zeros_drop n hn, List.append_assoc], Nat.le_refl 12, by rw [List.length_replicate]; exact hn⟩) _ (fun v8 m8 h8 => ?_)
  obtain ⟨C8, hC8, hs8, sub8, fr8⟩ := h8
  have H8 := Hid.mk (And.intro hC8 (And.intro hs8 sub8))
  clear hC8 hs8 sub8 fr8
  refine appV (enc := encU) (sz := 1) (C := C7) (E := C8) Tryz.underlying132 tk_5 eb_5 zl_5 (by decide) (by rw [Tryz.underlying132]; rfl) (by unfold isInt; rw [Tryz.underlying132]) encU_len (by rw [List.all_eq_true]; intro x hx; obtain ⟨y, -, hy⟩ := List.mem_flatMap.1 hx; rw [List.mem_singleton.1 hy]; rfl) H8.out.2.1 (H7.out.2.1.into H8.out.2.2) (by have := H7.out.1; have := H8.out.1; omega) (fun v9 m9 h1 h2 => ?_)
  obtain ⟨k1, k2⟩ := h2.sub (mb := m) (fun p y hp => H8.out.2.2 _ _ (H7.out.2.2.1 _ _ hp)) H7.out.2.2.2
  have hcl : (C7 ++ C8).length = 39 + 8 * n := by rw [List.length_append, H7.out.1, H8.out.1]
  have H9 := Hid.mk (And.intro h1 (And.intro k1 (And.intro k2 hcl)))
  clear h1 h2 k1 k2 hcl k0 H7 H8
  repeat' (first | exact tf0 ‹_› | exact tf1 ‹_› | exact False.elim ‹_› | (with_reducible refine Al.intro ?_; intro pb hpb; (try simp only [hupd_none'] at hpb); (repeat rcases hpb with ⟨⟨hpx, hpy⟩, hpb⟩)) | with_reducible refine need ?_ | ((with_reducible first | apply frk0 | apply frk1 | apply frk2 | apply frk3 | apply frk4 | apply frk5 | apply frk6 | apply frk7 | apply frk8 | apply frk9) <;> intro h <;> try (exfalso; omega)) | with_reducible refine quiet_and ?_ ?_ | with_reducible refine awp_drawnA mixed (by decide +kernel) ?_ | ((fail_if_success with_reducible refine stp ?_); simp -implicitDefEqProofs only [go_sem, Nat.reduceEqDiff, Nat.reduceAdd, Nat.reduceLT, Nat.reduceMul, Nat.reduceSub, Nat.reduceLeDiff, ↓reduceIte, reduceCtorEq, ↓String.reduceEq, String.reduceNe, Int.reduceToNat, Int.reduceLT, Int.reduceLE, Int.reduceGT, Int.reduceGE, Int.reduceEq, Int.reduceNe, Int.reduceBEq, Int.reduceBNe, Int.reduceAdd, Int.reduceSub, Int.reduceMul, Int.reduceNeg,  *]))
  refine seal_spec G HK.out.2 (C7 ++ C8) (by rw [H9.out.2.2.2]; omega) (by rw [H9.out.2.2.2]; omega) _ m9 H9.out.1 _ (fun v10 m10 h10 => ?_)
  obtain ⟨C10, hC10, hs10, sub10, fr10⟩ := h10
  have H10 := Hid.mk (And.intro hC10 (And.intro hs10 (And.intro sub10 fr10)))
  clear hC10 hs10 sub10 fr10
  repeat' (first | exact tf0 ‹_› | exact tf1 ‹_› | exact False.elim ‹_› | (with_reducible refine Al.intro ?_; intro pb hpb; (try simp only [hupd_none'] at hpb); (repeat rcases hpb with ⟨⟨hpx, hpy⟩, hpb⟩)) | with_reducible refine need ?_ | ((with_reducible first | apply frk0 | apply frk1 | apply frk2 | apply frk3 | apply frk4 | apply frk5 | apply frk6 | apply frk7 | apply frk8 | apply frk9) <;> intro h <;> try (exfalso; omega)) | with_reducible refine quiet_and ?_ ?_ | with_reducible refine awp_drawnA mixed (by decide +kernel) ?_ | ((fail_if_success with_reducible refine stp ?_); simp -implicitDefEqProofs only [go_sem, Nat.reduceEqDiff, Nat.reduceAdd, Nat.reduceLT, Nat.reduceMul, Nat.reduceSub, Nat.reduceLeDiff, ↓reduceIte, reduceCtorEq, ↓String.reduceEq, String.reduceNe, Int.reduceToNat, Int.reduceLT, Int.reduceLE, Int.reduceGT, Int.reduceGE, Int.reduceEq, Int.reduceNe, Int.reduceBEq, Int.reduceBNe, Int.reduceAdd, Int.reduceSub, Int.reduceMul, Int.reduceNeg,  *]))
  refine ⟨m10, Sub.refl _, HK.out.1 _ _ ⟨C10, by rw [H10.out.1, H9.out.2.2.2]; omega, H10.out.2.1, fun p x h => H10.out.2.2.1 _ _ (H9.out.2.1 _ _ h), fun b hb => ?_⟩⟩
  cases hm : m b with
  | none => rfl
  | some x => exact absurd (H9.out.2.1 _ _ hm) (by rw [H10.out.2.2.2 b hb]; simp)
end Go.Proofs.YtdckcophbmnjjaaGreatDoor
namespace Go.Proofs.YtdckcophbmnjjaaGreatDoor
open Go Go.Proofs.YtdckcophbmnjjaaGreatDoor.Ab
open Go.Proofs (Tryz.prog)
set_option maxRecDepth 100000
theorem ashr2 (n : Nat) : ashr .i64 (n : Int) 2 = ((n / 4 : Nat) : Int) := by
  unfold ashr
  rw [show ((2 : Int) ^ (min (2 : Int).toNat (IntKind.bits .i64))) = 4 from by decide, Int.fdiv_eq_ediv_of_nonneg _ (by omega)]
  omega
theorem smost_spec (G : Nat → AVal) (n : Nat) (h1 : 1 ≤ n) (h2 : n ≤ 10000) : Ans G 82 [.int .i64 (n : Nat)] (.int .i64 (n + (n - 1) / 4 : Nat)) := by
  intro m
  have n1 : ¬ (n : Int) < 1 := by omega
  have n2 : ¬ 1073741824 < (n : Int) := by omega
  have w1 : IntKind.i64.wrap ((n : Int) - 1) = ((n - 1 : Nat) : Int) := by rw [wrap_i64 (by omega) (by omega)]; omega
  have s1 := ashr2 (n - 1)
  have w2 : IntKind.i64.wrap (((n - 1) / 4 : Nat) : Int) = (((n - 1) / 4 : Nat) : Int) := by rw [wrap_i64 (by omega) (by omega)]
  have w3 : IntKind.i64.wrap ((n : Int) + (((n - 1) / 4 : Nat) : Int)) = ((n + (n - 1) / 4 : Nat) : Int) := by rw [wrap_i64 (by omega) (by omega)]; omega
  refine callWP_body Tryz.func82 rfl (N := 14) rfl (rs := [.tmp 2]) rfl en_82 (of_decide_eq_true rfl) ?_
  repeat' (first | exact tf0 ‹_› | exact tf1 ‹_› | exact False.elim ‹_› | (with_reducible refine Al.intro ?_; intro pb hpb; (try simp only [hupd_none'] at hpb); (repeat rcases hpb with ⟨⟨hpx, hpy⟩, hpb⟩)) | with_reducible refine need ?_ | ((with_reducible first | apply frk0 | apply frk1 | apply frk2 | apply frk3 | apply frk4 | apply frk5 | apply frk6 | apply frk7 | apply frk8 | apply frk9) <;> intro h <;> try (exfalso; omega)) | with_reducible refine quiet_and ?_ ?_ | with_reducible refine awp_drawnA mixed (by decide +kernel) ?_ | ((fail_if_success with_reducible refine stp ?_); simp -implicitDefEqProofs only [go_sem, Nat.reduceEqDiff, Nat.reduceAdd, Nat.reduceLT, Nat.reduceMul, Nat.reduceSub, Nat.reduceLeDiff, ↓reduceIte, reduceCtorEq, ↓String.reduceEq, String.reduceNe, Int.reduceToNat, Int.reduceLT, Int.reduceLE, Int.reduceGT, Int.reduceGE, Int.reduceEq, Int.reduceNe, Int.reduceBEq, Int.reduceBNe, Int.reduceAdd, Int.reduceSub, Int.reduceMul, Int.reduceNeg,  *]))
  refine ⟨m, (by (repeat refine Sub.fresh ?_ (by assumption)); exact Sub.refl m), ?_, rfl⟩
  first | rfl | (rw [s1, w3])
theorem wmost_spec (G : Nat → AVal) (hG : DivOK G) (n : Nat) (hn : n ≤ 8) : Ans G 69 [.bool true, .int .i64 (n : Nat)] (.int .i64 (64 + 8 * n + (53 + 8 * n) / 4 : Nat)) := by
  intro m
  have HG := Hid.mk hG
  clear hG
  have n1 : ¬ (n : Int) < 0 := by omega
  have n2 : ¬ 8 < (n : Int) := by omega
  obtain ⟨r, hr⟩ : ∃ r, r = 54 + 8 * n := ⟨_, rfl⟩
  obtain ⟨r2, hr2⟩ : ∃ r2, r2 = r + (r - 1) / 4 := ⟨_, rfl⟩
  have w1 : IntKind.i64.wrap ((r2 : Int) + 10) = ((r2 + 10 : Nat) : Int) := by rw [wrap_i64 (by omega) (by omega)]; omega
  have hres : 64 + 8 * n + (53 + 8 * n) / 4 = r2 + 10 := by omega
  rw [hres]
  have HR := Hid.mk (And.intro hr hr2)
  clear hr hr2 hres
  refine callWP_body Tryz.func69 rfl (N := 21) rfl (rs := [.tmp 4]) rfl en_69 (of_decide_eq_true rfl) ?_
  repeat' (first | exact tf0 ‹_› | exact tf1 ‹_› | exact False.elim ‹_› | (with_reducible refine Al.intro ?_; intro pb hpb; (try simp only [hupd_none'] at hpb); (repeat rcases hpb with ⟨⟨hpx, hpy⟩, hpb⟩)) | with_reducible refine need ?_ | ((with_reducible first | apply frk0 | apply frk1 | apply frk2 | apply frk3 | apply frk4 | apply frk5 | apply frk6 | apply frk7 | apply frk8 | apply frk9) <;> intro h <;> try (exfalso; omega)) | with_reducible refine quiet_and ?_ ?_ | with_reducible refine awp_drawnA mixed (by decide +kernel) ?_ | ((fail_if_success with_reducible refine stp ?_); simp -implicitDefEqProofs only [go_sem, Nat.reduceEqDiff, Nat.reduceAdd, Nat.reduceLT, Nat.reduceMul, Nat.reduceSub, Nat.reduceLeDiff, ↓reduceIte, reduceCtorEq, ↓String.reduceEq, String.reduceNe, Int.reduceToNat, Int.reduceLT, Int.reduceLE, Int.reduceGT, Int.reduceGE, Int.reduceEq, Int.reduceNe, Int.reduceBEq, Int.reduceBNe, Int.reduceAdd, Int.reduceSub, Int.reduceMul, Int.reduceNeg,  *]))
  refine body_spec G HG.out n hn _ _ (fun v5 m5 h5 => ?_)
  rw [← HR.out.1] at h5
  obtain ⟨C, hC, hs, sub, -⟩ := h5
  have hsm : Sub m m5 := fun p x h => sub _ _ (((Sub.refl _).fresh hpb) _ _ h)
  obtain ⟨b, o, c, rfl⟩ : ∃ b o c, v5 = .slice b o r c := by
    rcases hs.slv with ⟨h1, h2⟩ | h
    · rw [h2] at hC; exact absurd hC (by have := HR.out.1; simp; omega)
    · rw [hC] at h; exact h
  have HS := Hid.mk hsm
  clear hC hs sub hsm
  repeat' (first | exact tf0 ‹_› | exact tf1 ‹_› | exact False.elim ‹_› | (with_reducible refine Al.intro ?_; intro pb hpb; (try simp only [hupd_none'] at hpb); (repeat rcases hpb with ⟨⟨hpx, hpy⟩, hpb⟩)) | with_reducible refine need ?_ | ((with_reducible first | apply frk0 | apply frk1 | apply frk2 | apply frk3 | apply frk4 | apply frk5 | apply frk6 | apply frk7 | apply frk8 | apply frk9) <;> intro h <;> try (exfalso; omega)) | with_reducible refine quiet_and ?_ ?_ | with_reducible refine awp_drawnA mixed (by decide +kernel) ?_ | ((fail_if_success with_reducible refine stp ?_); simp -implicitDefEqProofs only [go_sem, Nat.reduceEqDiff, Nat.reduceAdd, Nat.reduceLT, Nat.reduceMul, Nat.reduceSub, Nat.reduceLeDiff, ↓reduceIte, reduceCtorEq, ↓String.reduceEq, String.reduceNe, Int.reduceToNat, Int.reduceLT, Int.reduceLE, Int.reduceGT, Int.reduceGE, Int.reduceEq, Int.reduceNe, Int.reduceBEq, Int.reduceBNe, Int.reduceAdd, Int.reduceSub, Int.reduceMul, Int.reduceNeg,  *]))
  refine CallWP.to (smost_spec G r (by have := HR.out.1; omega) (by have := HR.out.1; omega) _) ?_
  rw [← HR.out.2]
  repeat' (first | exact tf0 ‹_› | exact tf1 ‹_› | exact False.elim ‹_› | (with_reducible refine Al.intro ?_; intro pb hpb; (try simp only [hupd_none'] at hpb); (repeat rcases hpb with ⟨⟨hpx, hpy⟩, hpb⟩)) | with_reducible refine need ?_ | ((with_reducible first | apply frk0 | apply frk1 | apply frk2 | apply frk3 | apply frk4 | apply frk5 | apply frk6 | apply frk7 | apply frk8 | apply frk9) <;> intro h <;> try (exfalso; omega)) | with_reducible refine quiet_and ?_ ?_ | with_reducible refine awp_drawnA mixed (by decide +kernel) ?_ | ((fail_if_success with_reducible refine stp ?_); simp -implicitDefEqProofs only [go_sem, Nat.reduceEqDiff, Nat.reduceAdd, Nat.reduceLT, Nat.reduceMul, Nat.reduceSub, Nat.reduceLeDiff, ↓reduceIte, reduceCtorEq, ↓String.reduceEq, String.reduceNe, Int.reduceToNat, Int.reduceLT, Int.reduceLE, Int.reduceGT, Int.reduceGE, Int.reduceEq, Int.reduceNe, Int.reduceBEq, Int.reduceBNe, Int.reduceAdd, Int.reduceSub, Int.reduceMul, Int.reduceNeg,  *]))
  exact ⟨m, HS.out, rfl, rfl⟩
end Go.Proofs.YtdckcophbmnjjaaGreatDoor
