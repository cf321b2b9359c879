/- Streams: which can be, and what one costs. Streams: where one is, and whether all can be. Streams: whether all can be. -/
import Derived.Test.YtdckcophbmnjjaaGreatDoorZ0
set_option linter.all false
namespace Go.Proofs.YtdckcophbmnjjaaGreatDoor
open Go Go.Proofs.YtdckcophbmnjjaaGreatDoor.Ab
open Go.Proofs (Tryz.prog)
set_option maxRecDepth 100000
/-- A stream: number, node, class, period, deadline, slot, bytes. -/
abbrev Stm := Int × Int × Int × Int × Int × Int × Int
abbrev encSc (s : Stm) : List AVal := [.int .i64 s.1, .int .i64 s.2.1, .int .i64 s.2.2.1, .int .i64 s.2.2.2.1, .int .i64 s.2.2.2.2.1, .int .i64 s.2.2.2.2.2.1, .int .i64 s.2.2.2.2.2.2]
theorem encSc_len (s : Stm) : (encSc s).length = 7 := rfl
def encS (s : Stm) : AVal := .agg (encSc s)
/-- May its label be? -/
def labS (s : Stm) : Bool := decide (1 ≤ s.2.2.1 ∧ s.2.2.1 ≤ 3) && decide (0 ≤ s.2.2.2.2.2.1 ∧ s.2.2.2.2.2.1 ≤ 255) && decide (0 ≤ s.1 ∧ s.1 ≤ 2047) && decide (0 ≤ s.2.1 ∧ s.2.1 < 32)
/-- What is wrong with a stream. -/
def rightS (s : Stm) : Int := if ¬ (1 ≤ s.2.2.1 ∧ s.2.2.1 ≤ 3) then 10 else if labS s = false then 1 else if ¬ ((1 ≤ s.2.2.2.1 ∧ s.2.2.2.1 ≤ 1073741824) ∧ 1 ≤ s.2.2.2.2.1 ∧ s.2.2.2.2.1 ≤ s.2.2.2.1) then 1 else if ¬ (0 ≤ s.2.2.2.2.2.2 ∧ s.2.2.2.2.2.2 ≤ 8) then 2 else 0
/-- What a frame of a stream takes. -/
def costS (s : Stm) : Int := if rightS s = 0 then (54 + 8 * s.2.2.2.2.2.2) + (54 + 8 * s.2.2.2.2.2.2 - 1).tdiv 4 + 13 else 0
theorem rightS_zero {s : Stm} : rightS s = 0 ↔ (1 ≤ s.2.2.1 ∧ s.2.2.1 ≤ 3) ∧ (0 ≤ s.2.2.2.2.2.1 ∧ s.2.2.2.2.2.1 ≤ 255) ∧ (0 ≤ s.1 ∧ s.1 ≤ 2047) ∧ (0 ≤ s.2.1 ∧ s.2.1 < 32) ∧ (1 ≤ s.2.2.2.1 ∧ s.2.2.2.1 ≤ 1073741824) ∧ (1 ≤ s.2.2.2.2.1 ∧ s.2.2.2.2.1 ≤ s.2.2.2.1) ∧ (0 ≤ s.2.2.2.2.2.2 ∧ s.2.2.2.2.2.2 ≤ 8) := by
  have hl : labS s = false ↔ ¬ ((1 ≤ s.2.2.1 ∧ s.2.2.1 ≤ 3) ∧ (0 ≤ s.2.2.2.2.2.1 ∧ s.2.2.2.2.2.1 ≤ 255) ∧ (0 ≤ s.1 ∧ s.1 ≤ 2047) ∧ (0 ≤ s.2.1 ∧ s.2.1 < 32)) := by
    unfold labS
    rw [← Bool.not_eq_true]
    simp only [Bool.and_eq_true, decide_eq_true_eq]
    omega
  unfold rightS
  split
  · constructor
    · intro h; omega
    · intro h; omega
  · split
    · rename_i h
      rw [hl] at h
      constructor
      · intro h; omega
      · intro h2; exact absurd ⟨h2.1, h2.2.1, h2.2.2.1, h2.2.2.2.1⟩ h
    · rename_i h
      rw [hl, Classical.not_not] at h
      split
      · constructor
        · intro h; omega
        · intro h; omega
      · split
        · constructor
          · intro h; omega
          · intro h; omega
        · constructor
          · intro _; omega
          · intro _; rfl
theorem costS_in (s : Stm) : 0 ≤ costS s ∧ costS s ≤ 160 := by
  unfold costS
  split
  · rename_i h
    rw [rightS_zero] at h
    rw [Int.tdiv_eq_ediv_of_nonneg (by omega)]
    omega
  · omega
theorem costS_pos {s : Stm} (h : rightS s = 0) : 1 ≤ costS s := by
  unfold costS
  rw [if_pos h]
  rw [rightS_zero] at h
  rw [Int.tdiv_eq_ediv_of_nonneg (by omega)]
  omega
def encLb (s : Stm) : AVal := .agg [.int .i64 s.2.2.1, .int .i64 s.2.2.2.2.2.1, .int .i64 s.1, .int .i64 s.2.1]
theorem label_spec (G : Nat → AVal) (s : Stm) : Ans G 64 [encS s] (encLb s) := by
  intro m
  refine callWP_body Tryz.func64 rfl (N := 12) rfl (rs := [.cell 2 107]) rfl en_64 (of_decide_eq_true rfl) ?_
  repeat' (first | exact tf0 ‹_› | exact tf1 ‹_› | exact False.elim ‹_› | (with_reducible refine Al.intro ?_; intro pb hpb; (try simp only [hupd_none'] at hpb); (repeat rcases hpb with ⟨⟨hpx, hpy⟩, hpb⟩)) | with_reducible refine need ?_ | ((with_reducible first | apply frk0 | apply frk1 | apply frk2 | apply frk3 | apply frk4 | apply frk5 | apply frk6 | apply frk7 | apply frk8 | apply frk9) <;> intro h <;> try (exfalso; omega)) | with_reducible refine quiet_and ?_ ?_ | with_reducible refine awp_drawnA mixed (by decide +kernel) ?_ | ((fail_if_success with_reducible refine stp ?_); simp -implicitDefEqProofs only [go_sem, Nat.reduceEqDiff, Nat.reduceAdd, Nat.reduceLT, Nat.reduceMul, Nat.reduceSub, Nat.reduceLeDiff, ↓reduceIte, reduceCtorEq, ↓String.reduceEq, String.reduceNe, Int.reduceToNat, Int.reduceLT, Int.reduceLE, Int.reduceGT, Int.reduceGE, Int.reduceEq, Int.reduceNe, Int.reduceBEq, Int.reduceBNe, Int.reduceAdd, Int.reduceSub, Int.reduceMul, Int.reduceNeg,  encS, encSc, *]))
  refine ⟨m, (by (repeat refine Sub.fresh ?_ (by assumption)); exact Sub.refl m), ?_, rfl⟩
  rfl
theorem lright_spec (G : Nat → AVal) (s : Stm) : Ans G 63 [encLb s] (.bool (labS s)) := by
  intro m
  refine callWP_body Tryz.func63 rfl (N := 41) rfl (rs := [.tmp 2]) rfl en_63 (of_decide_eq_true rfl) ?_
  repeat' (first | exact tf0 ‹_› | exact tf1 ‹_› | exact False.elim ‹_› | (with_reducible refine Al.intro ?_; intro pb hpb; (try simp only [hupd_none'] at hpb); (repeat rcases hpb with ⟨⟨hpx, hpy⟩, hpb⟩)) | with_reducible refine need ?_ | ((with_reducible first | apply frk0 | apply frk1 | apply frk2 | apply frk3 | apply frk4 | apply frk5 | apply frk6 | apply frk7 | apply frk8 | apply frk9) <;> intro h <;> try (exfalso; omega)) | with_reducible refine quiet_and ?_ ?_ | with_reducible refine awp_drawnA mixed (by decide +kernel) ?_ | ((fail_if_success with_reducible refine stp ?_); simp -implicitDefEqProofs only [go_sem, Nat.reduceEqDiff, Nat.reduceAdd, Nat.reduceLT, Nat.reduceMul, Nat.reduceSub, Nat.reduceLeDiff, ↓reduceIte, reduceCtorEq, ↓String.reduceEq, String.reduceNe, Int.reduceToNat, Int.reduceLT, Int.reduceLE, Int.reduceGT, Int.reduceGE, Int.reduceEq, Int.reduceNe, Int.reduceBEq, Int.reduceBNe, Int.reduceAdd, Int.reduceSub, Int.reduceMul, Int.reduceNeg,  encLb, *]))
  all_goals refine ⟨m, (by (repeat refine Sub.fresh ?_ (by assumption)); exact Sub.refl m), ?_, rfl⟩
  all_goals (
    show AVal.bool _ = AVal.bool _
    congr 1
    rw [Bool.eq_iff_iff]
    unfold labS
    simp only [Bool.and_eq_true, decide_eq_true_eq, Bool.false_eq_true]
    refine ⟨fun h => ?_, fun h => ?_⟩ <;> first | exact h.elim | omega)
theorem right_eq {s : Stm} {e : Int} (h : rightS s = e) : rightS s = e := h
set_option maxHeartbeats 1000000 in
theorem sright_spec (G : Nat → AVal) (s : Stm) : Ans G 48 [encS s] (.int .i64 (rightS s)) := by
  intro m
  obtain ⟨b, hb⟩ : ∃ b, b = labS s := ⟨_, rfl⟩
  have HB := Hid.mk hb
  clear hb
  refine callWP_body Tryz.func48 rfl (N := 43) rfl (rs := [.tmp 2]) rfl en_48 (of_decide_eq_true rfl) ?_
  repeat' (first | exact tf0 ‹_› | exact tf1 ‹_› | exact False.elim ‹_› | (with_reducible refine Al.intro ?_; intro pb hpb; (try simp only [hupd_none'] at hpb); (repeat rcases hpb with ⟨⟨hpx, hpy⟩, hpb⟩)) | with_reducible refine need ?_ | ((with_reducible first | apply frk0 | apply frk1 | apply frk2 | apply frk3 | apply frk4 | apply frk5 | apply frk6 | apply frk7 | apply frk8 | apply frk9) <;> intro h <;> try (exfalso; omega)) | with_reducible refine quiet_and ?_ ?_ | with_reducible refine awp_drawnA mixed (by decide +kernel) ?_ | ((fail_if_success with_reducible refine stp ?_); simp -implicitDefEqProofs only [go_sem, Nat.reduceEqDiff, Nat.reduceAdd, Nat.reduceLT, Nat.reduceMul, Nat.reduceSub, Nat.reduceLeDiff, ↓reduceIte, reduceCtorEq, ↓String.reduceEq, String.reduceNe, Int.reduceToNat, Int.reduceLT, Int.reduceLE, Int.reduceGT, Int.reduceGE, Int.reduceEq, Int.reduceNe, Int.reduceBEq, Int.reduceBNe, Int.reduceAdd, Int.reduceSub, Int.reduceMul, Int.reduceNeg,  encS, encSc, *]))
  · refine ⟨m, (by (repeat refine Sub.fresh ?_ (by assumption)); exact Sub.refl m), ?_, rfl⟩
    unfold rightS; rw [if_pos (by omega)]
  · refine ⟨m, (by (repeat refine Sub.fresh ?_ (by assumption)); exact Sub.refl m), ?_, rfl⟩
    unfold rightS; rw [if_pos (by omega)]
  refine CallWP.to (label_spec G s _) ?_
  repeat' (first | exact tf0 ‹_› | exact tf1 ‹_› | exact False.elim ‹_› | (with_reducible refine Al.intro ?_; intro pb hpb; (try simp only [hupd_none'] at hpb); (repeat rcases hpb with ⟨⟨hpx, hpy⟩, hpb⟩)) | with_reducible refine need ?_ | ((with_reducible first | apply frk0 | apply frk1 | apply frk2 | apply frk3 | apply frk4 | apply frk5 | apply frk6 | apply frk7 | apply frk8 | apply frk9) <;> intro h <;> try (exfalso; omega)) | with_reducible refine quiet_and ?_ ?_ | with_reducible refine awp_drawnA mixed (by decide +kernel) ?_ | ((fail_if_success with_reducible refine stp ?_); simp -implicitDefEqProofs only [go_sem, Nat.reduceEqDiff, Nat.reduceAdd, Nat.reduceLT, Nat.reduceMul, Nat.reduceSub, Nat.reduceLeDiff, ↓reduceIte, reduceCtorEq, ↓String.reduceEq, String.reduceNe, Int.reduceToNat, Int.reduceLT, Int.reduceLE, Int.reduceGT, Int.reduceGE, Int.reduceEq, Int.reduceNe, Int.reduceBEq, Int.reduceBNe, Int.reduceAdd, Int.reduceSub, Int.reduceMul, Int.reduceNeg,  *]))
  refine CallWP.to (lright_spec G s _) ?_
  rw [← HB.out]
  cases b with
  | false =>
    repeat' (first | exact tf0 ‹_› | exact tf1 ‹_› | exact False.elim ‹_› | (with_reducible refine Al.intro ?_; intro pb hpb; (try simp only [hupd_none'] at hpb); (repeat rcases hpb with ⟨⟨hpx, hpy⟩, hpb⟩)) | with_reducible refine need ?_ | ((with_reducible first | apply frk0 | apply frk1 | apply frk2 | apply frk3 | apply frk4 | apply frk5 | apply frk6 | apply frk7 | apply frk8 | apply frk9) <;> intro h <;> try (exfalso; omega)) | with_reducible refine quiet_and ?_ ?_ | with_reducible refine awp_drawnA mixed (by decide +kernel) ?_ | ((fail_if_success with_reducible refine stp ?_); simp -implicitDefEqProofs only [go_sem, Nat.reduceEqDiff, Nat.reduceAdd, Nat.reduceLT, Nat.reduceMul, Nat.reduceSub, Nat.reduceLeDiff, ↓reduceIte, reduceCtorEq, ↓String.reduceEq, String.reduceNe, Int.reduceToNat, Int.reduceLT, Int.reduceLE, Int.reduceGT, Int.reduceGE, Int.reduceEq, Int.reduceNe, Int.reduceBEq, Int.reduceBNe, Int.reduceAdd, Int.reduceSub, Int.reduceMul, Int.reduceNeg,  *]))
    refine ⟨m, (by (repeat refine Sub.fresh ?_ (by assumption)); exact Sub.refl m), ?_, rfl⟩
    unfold rightS; rw [if_neg (by omega), if_pos HB.out.symm]
  | true =>
    have HB2 : labS s ≠ false := by rw [← HB.out]; decide
    repeat' (first | exact tf0 ‹_› | exact tf1 ‹_› | exact False.elim ‹_› | (with_reducible refine Al.intro ?_; intro pb hpb; (try simp only [hupd_none'] at hpb); (repeat rcases hpb with ⟨⟨hpx, hpy⟩, hpb⟩)) | with_reducible refine need ?_ | ((with_reducible first | apply frk0 | apply frk1 | apply frk2 | apply frk3 | apply frk4 | apply frk5 | apply frk6 | apply frk7 | apply frk8 | apply frk9) <;> intro h <;> try (exfalso; omega)) | with_reducible refine quiet_and ?_ ?_ | with_reducible refine awp_drawnA mixed (by decide +kernel) ?_ | ((fail_if_success with_reducible refine stp ?_); simp -implicitDefEqProofs only [go_sem, Nat.reduceEqDiff, Nat.reduceAdd, Nat.reduceLT, Nat.reduceMul, Nat.reduceSub, Nat.reduceLeDiff, ↓reduceIte, reduceCtorEq, ↓String.reduceEq, String.reduceNe, Int.reduceToNat, Int.reduceLT, Int.reduceLE, Int.reduceGT, Int.reduceGE, Int.reduceEq, Int.reduceNe, Int.reduceBEq, Int.reduceBNe, Int.reduceAdd, Int.reduceSub, Int.reduceMul, Int.reduceNeg,  encSc, *]))
    all_goals refine ⟨m, (by (repeat refine Sub.fresh ?_ (by assumption)); exact Sub.refl m), ?_, rfl⟩
    all_goals (
      unfold rightS
      rw [if_neg (by omega), if_neg HB2]
      first | (rw [if_pos (by omega)]; done) | (rw [if_neg (by omega), if_pos (by omega)]; done) | (rw [if_neg (by omega), if_neg (by omega)]; done))
theorem most04_spec (G : Nat → AVal) (n : Int) (h1 : 1 ≤ n) (h2 : n ≤ 1000) : Ans G 70 [.int .i64 n] (.int .i64 (n + (n - 1).tdiv 4)) := by
  intro m
  have e : (n - 1).tdiv 4 = (n - 1) / 4 := Int.tdiv_eq_ediv_of_nonneg (by omega)
  have w1 : IntKind.i64.wrap (n - 1) = n - 1 := wrap_i64 (by omega) (by omega)
  have w2 : IntKind.i64.wrap ((n - 1).tdiv 4) = (n - 1).tdiv 4 := wrap_i64 (by omega) (by omega)
  have w3 : IntKind.i64.wrap (n + (n - 1).tdiv 4) = n + (n - 1).tdiv 4 := wrap_i64 (by omega) (by omega)
  have n1 : ¬ n < 1 := by omega
  have n2 : ¬ 1073741824 < n := by omega
  clear e h1 h2
  refine callWP_body Tryz.func70 rfl (N := 14) rfl (rs := [.tmp 2]) rfl en_70 (of_decide_eq_true rfl) ?_
  repeat' (first | exact tf0 ‹_› | exact tf1 ‹_› | exact False.elim ‹_› | (with_reducible refine Al.intro ?_; intro pb hpb; (try simp only [hupd_none'] at hpb); (repeat rcases hpb with ⟨⟨hpx, hpy⟩, hpb⟩)) | with_reducible refine need ?_ | ((with_reducible first | apply frk0 | apply frk1 | apply frk2 | apply frk3 | apply frk4 | apply frk5 | apply frk6 | apply frk7 | apply frk8 | apply frk9) <;> intro h <;> try (exfalso; omega)) | with_reducible refine quiet_and ?_ ?_ | with_reducible refine awp_drawnA mixed (by decide +kernel) ?_ | ((fail_if_success with_reducible refine stp ?_); simp -implicitDefEqProofs only [go_sem, Nat.reduceEqDiff, Nat.reduceAdd, Nat.reduceLT, Nat.reduceMul, Nat.reduceSub, Nat.reduceLeDiff, ↓reduceIte, reduceCtorEq, ↓String.reduceEq, String.reduceNe, Int.reduceToNat, Int.reduceLT, Int.reduceLE, Int.reduceGT, Int.reduceGE, Int.reduceEq, Int.reduceNe, Int.reduceBEq, Int.reduceBNe, Int.reduceAdd, Int.reduceSub, Int.reduceMul, Int.reduceNeg,  *]))
  refine ⟨m, (by (repeat refine Sub.fresh ?_ (by assumption)); exact Sub.refl m), ?_, rfl⟩
  rfl
theorem most07_spec (G : Nat → AVal) (b : Int) (h1 : 0 ≤ b) (h2 : b ≤ 8) : Ans G 65 [.bool true, .int .i64 b] (.int .i64 ((54 + 8 * b) + (54 + 8 * b - 1).tdiv 4 + 10)) := by
  intro m
  have e : (54 + 8 * b - 1).tdiv 4 = (54 + 8 * b - 1) / 4 := Int.tdiv_eq_ediv_of_nonneg (by omega)
  obtain ⟨k, hk⟩ : ∃ k, k = 54 + 8 * b := ⟨_, rfl⟩
  have w1 : IntKind.i64.wrap (8 * b) = 8 * b := wrap_i64 (by omega) (by omega)
  have w2 : IntKind.i64.wrap (34 + 8 * b) = 34 + 8 * b := wrap_i64 (by omega) (by omega)
  have w3 : IntKind.i64.wrap (54 + 8 * b) = k := by rw [wrap_i64 (by omega) (by omega)]; omega
  have w4 : IntKind.i64.wrap (k + (k - 1).tdiv 4 + 10) = k + (k - 1).tdiv 4 + 10 := wrap_i64 (by rw [hk]; omega) (by rw [hk]; omega)
  have n1 : ¬ b < 0 := by omega
  have n2 : ¬ 8 < b := by omega
  have HM := Hid.mk (most04_spec G k (by omega) (by omega))
  rw [← hk]
  clear e h1 h2 hk
  refine callWP_body Tryz.func65 rfl (N := 22) rfl (rs := [.tmp 4]) rfl en_65 (of_decide_eq_true rfl) ?_
  repeat' (first | exact tf0 ‹_› | exact tf1 ‹_› | exact False.elim ‹_› | (with_reducible refine Al.intro ?_; intro pb hpb; (try simp only [hupd_none'] at hpb); (repeat rcases hpb with ⟨⟨hpx, hpy⟩, hpb⟩)) | with_reducible refine need ?_ | ((with_reducible first | apply frk0 | apply frk1 | apply frk2 | apply frk3 | apply frk4 | apply frk5 | apply frk6 | apply frk7 | apply frk8 | apply frk9) <;> intro h <;> try (exfalso; omega)) | with_reducible refine quiet_and ?_ ?_ | with_reducible refine awp_drawnA mixed (by decide +kernel) ?_ | ((fail_if_success with_reducible refine stp ?_); simp -implicitDefEqProofs only [go_sem, Nat.reduceEqDiff, Nat.reduceAdd, Nat.reduceLT, Nat.reduceMul, Nat.reduceSub, Nat.reduceLeDiff, ↓reduceIte, reduceCtorEq, ↓String.reduceEq, String.reduceNe, Int.reduceToNat, Int.reduceLT, Int.reduceLE, Int.reduceGT, Int.reduceGE, Int.reduceEq, Int.reduceNe, Int.reduceBEq, Int.reduceBNe, Int.reduceAdd, Int.reduceSub, Int.reduceMul, Int.reduceNeg,  *]))
  refine CallWP.to (HM.out _) ?_
  repeat' (first | exact tf0 ‹_› | exact tf1 ‹_› | exact False.elim ‹_› | (with_reducible refine Al.intro ?_; intro pb hpb; (try simp only [hupd_none'] at hpb); (repeat rcases hpb with ⟨⟨hpx, hpy⟩, hpb⟩)) | with_reducible refine need ?_ | ((with_reducible first | apply frk0 | apply frk1 | apply frk2 | apply frk3 | apply frk4 | apply frk5 | apply frk6 | apply frk7 | apply frk8 | apply frk9) <;> intro h <;> try (exfalso; omega)) | with_reducible refine quiet_and ?_ ?_ | with_reducible refine awp_drawnA mixed (by decide +kernel) ?_ | ((fail_if_success with_reducible refine stp ?_); simp -implicitDefEqProofs only [go_sem, Nat.reduceEqDiff, Nat.reduceAdd, Nat.reduceLT, Nat.reduceMul, Nat.reduceSub, Nat.reduceLeDiff, ↓reduceIte, reduceCtorEq, ↓String.reduceEq, String.reduceNe, Int.reduceToNat, Int.reduceLT, Int.reduceLE, Int.reduceGT, Int.reduceGE, Int.reduceEq, Int.reduceNe, Int.reduceBEq, Int.reduceBNe, Int.reduceAdd, Int.reduceSub, Int.reduceMul, Int.reduceNeg,  *]))
  refine ⟨m, (by (repeat refine Sub.fresh ?_ (by assumption)); exact Sub.refl m), ?_, rfl⟩
  rfl
theorem cost_spec (G : Nat → AVal) (s : Stm) : Ans G 49 [encS s] (.int .i64 (costS s)) := by
  intro m
  obtain ⟨e, he⟩ : ∃ e, e = rightS s := ⟨_, rfl⟩
  have HE := Hid.mk he
  by_cases h0 : e = 0
  · have hr := rightS_zero.1 (he.symm.trans h0)
    have e1 : (54 + 8 * s.2.2.2.2.2.2 - 1).tdiv 4 = (54 + 8 * s.2.2.2.2.2.2 - 1) / 4 := Int.tdiv_eq_ediv_of_nonneg (by omega)
    obtain ⟨k, hk⟩ : ∃ k, k = (54 + 8 * s.2.2.2.2.2.2) + (54 + 8 * s.2.2.2.2.2.2 - 1).tdiv 4 + 10 := ⟨_, rfl⟩
    have hc : Hid (costS s = k + 3) := .mk (by unfold costS; rw [if_pos (he.symm.trans h0)]; omega)
    have w1 : IntKind.i64.wrap (k + 3) = k + 3 := wrap_i64 (by omega) (by omega)
    have HM := Hid.mk (most07_spec G s.2.2.2.2.2.2 hr.2.2.2.2.2.2.1 hr.2.2.2.2.2.2.2)
    rw [← hk] at HM
    clear he hr e1 hk
    subst h0
    refine callWP_body Tryz.func49 rfl (N := 10) rfl (rs := [.tmp 2]) rfl en_49 (of_decide_eq_true rfl) ?_
    repeat' (first | exact tf0 ‹_› | exact tf1 ‹_› | exact False.elim ‹_› | (with_reducible refine Al.intro ?_; intro pb hpb; (try simp only [hupd_none'] at hpb); (repeat rcases hpb with ⟨⟨hpx, hpy⟩, hpb⟩)) | with_reducible refine need ?_ | ((with_reducible first | apply frk0 | apply frk1 | apply frk2 | apply frk3 | apply frk4 | apply frk5 | apply frk6 | apply frk7 | apply frk8 | apply frk9) <;> intro h <;> try (exfalso; omega)) | with_reducible refine quiet_and ?_ ?_ | with_reducible refine awp_drawnA mixed (by decide +kernel) ?_ | ((fail_if_success with_reducible refine stp ?_); simp -implicitDefEqProofs only [go_sem, Nat.reduceEqDiff, Nat.reduceAdd, Nat.reduceLT, Nat.reduceMul, Nat.reduceSub, Nat.reduceLeDiff, ↓reduceIte, reduceCtorEq, ↓String.reduceEq, String.reduceNe, Int.reduceToNat, Int.reduceLT, Int.reduceLE, Int.reduceGT, Int.reduceGE, Int.reduceEq, Int.reduceNe, Int.reduceBEq, Int.reduceBNe, Int.reduceAdd, Int.reduceSub, Int.reduceMul, Int.reduceNeg,  encS, encSc, *]))
    refine CallWP.to (sright_spec G s _) ?_
    rw [← HE.out]
    repeat' (first | exact tf0 ‹_› | exact tf1 ‹_› | exact False.elim ‹_› | (with_reducible refine Al.intro ?_; intro pb hpb; (try simp only [hupd_none'] at hpb); (repeat rcases hpb with ⟨⟨hpx, hpy⟩, hpb⟩)) | with_reducible refine need ?_ | ((with_reducible first | apply frk0 | apply frk1 | apply frk2 | apply frk3 | apply frk4 | apply frk5 | apply frk6 | apply frk7 | apply frk8 | apply frk9) <;> intro h <;> try (exfalso; omega)) | with_reducible refine quiet_and ?_ ?_ | with_reducible refine awp_drawnA mixed (by decide +kernel) ?_ | ((fail_if_success with_reducible refine stp ?_); simp -implicitDefEqProofs only [go_sem, Nat.reduceEqDiff, Nat.reduceAdd, Nat.reduceLT, Nat.reduceMul, Nat.reduceSub, Nat.reduceLeDiff, ↓reduceIte, reduceCtorEq, ↓String.reduceEq, String.reduceNe, Int.reduceToNat, Int.reduceLT, Int.reduceLE, Int.reduceGT, Int.reduceGE, Int.reduceEq, Int.reduceNe, Int.reduceBEq, Int.reduceBNe, Int.reduceAdd, Int.reduceSub, Int.reduceMul, Int.reduceNeg,  encS, encSc, *]))
    refine CallWP.to (HM.out _) ?_
    repeat' (first | exact tf0 ‹_› | exact tf1 ‹_› | exact False.elim ‹_› | (with_reducible refine Al.intro ?_; intro pb hpb; (try simp only [hupd_none'] at hpb); (repeat rcases hpb with ⟨⟨hpx, hpy⟩, hpb⟩)) | with_reducible refine need ?_ | ((with_reducible first | apply frk0 | apply frk1 | apply frk2 | apply frk3 | apply frk4 | apply frk5 | apply frk6 | apply frk7 | apply frk8 | apply frk9) <;> intro h <;> try (exfalso; omega)) | with_reducible refine quiet_and ?_ ?_ | with_reducible refine awp_drawnA mixed (by decide +kernel) ?_ | ((fail_if_success with_reducible refine stp ?_); simp -implicitDefEqProofs only [go_sem, Nat.reduceEqDiff, Nat.reduceAdd, Nat.reduceLT, Nat.reduceMul, Nat.reduceSub, Nat.reduceLeDiff, ↓reduceIte, reduceCtorEq, ↓String.reduceEq, String.reduceNe, Int.reduceToNat, Int.reduceLT, Int.reduceLE, Int.reduceGT, Int.reduceGE, Int.reduceEq, Int.reduceNe, Int.reduceBEq, Int.reduceBNe, Int.reduceAdd, Int.reduceSub, Int.reduceMul, Int.reduceNeg,  *]))
    refine ⟨m, (by (repeat refine Sub.fresh ?_ (by assumption)); exact Sub.refl m), ?_, rfl⟩
    rw [hc.out]
  · have hc : Hid (costS s = 0) := .mk (by unfold costS; rw [if_neg (by omega)])
    clear he
    refine callWP_body Tryz.func49 rfl (N := 10) rfl (rs := [.tmp 2]) rfl en_49 (of_decide_eq_true rfl) ?_
    repeat' (first | exact tf0 ‹_› | exact tf1 ‹_› | exact False.elim ‹_› | (with_reducible refine Al.intro ?_; intro pb hpb; (try simp only [hupd_none'] at hpb); (repeat rcases hpb with ⟨⟨hpx, hpy⟩, hpb⟩)) | with_reducible refine need ?_ | ((with_reducible first | apply frk0 | apply frk1 | apply frk2 | apply frk3 | apply frk4 | apply frk5 | apply frk6 | apply frk7 | apply frk8 | apply frk9) <;> intro h <;> try (exfalso; omega)) | with_reducible refine quiet_and ?_ ?_ | with_reducible refine awp_drawnA mixed (by decide +kernel) ?_ | ((fail_if_success with_reducible refine stp ?_); simp -implicitDefEqProofs only [go_sem, Nat.reduceEqDiff, Nat.reduceAdd, Nat.reduceLT, Nat.reduceMul, Nat.reduceSub, Nat.reduceLeDiff, ↓reduceIte, reduceCtorEq, ↓String.reduceEq, String.reduceNe, Int.reduceToNat, Int.reduceLT, Int.reduceLE, Int.reduceGT, Int.reduceGE, Int.reduceEq, Int.reduceNe, Int.reduceBEq, Int.reduceBNe, Int.reduceAdd, Int.reduceSub, Int.reduceMul, Int.reduceNeg,  encS, encSc, *]))
    refine CallWP.to (sright_spec G s _) ?_
    rw [← HE.out]
    repeat' (first | exact tf0 ‹_› | exact tf1 ‹_› | exact False.elim ‹_› | (with_reducible refine Al.intro ?_; intro pb hpb; (try simp only [hupd_none'] at hpb); (repeat rcases hpb with ⟨⟨hpx, hpy⟩, hpb⟩)) | with_reducible refine need ?_ | ((with_reducible first | apply frk0 | apply frk1 | apply frk2 | apply frk3 | apply frk4 | apply frk5 | apply frk6 | apply frk7 | apply frk8 | apply frk9) <;> intro h <;> try (exfalso; omega)) | with_reducible refine quiet_and ?_ ?_ | with_reducible refine awp_drawnA mixed (by decide +kernel) ?_ | ((fail_if_success with_reducible refine stp ?_); simp -implicitDefEqProofs only [go_sem, Nat.reduceEqDiff, Nat.reduceAdd, Nat.reduceLT, Nat.reduceMul, Nat.reduceSub, Nat.reduceLeDiff, ↓reduceIte, reduceCtorEq, ↓String.reduceEq, String.reduceNe, Int.reduceToNat, Int.reduceLT, Int.reduceLE, Int.reduceGT, Int.reduceGE, Int.reduceEq, Int.reduceNe, Int.reduceBEq, Int.reduceBNe, Int.reduceAdd, Int.reduceSub, Int.reduceMul, Int.reduceNeg,  encS, encSc, *]))
    refine ⟨m, (by (repeat refine Sub.fresh ?_ (by assumption)); exact Sub.refl m), ?_, rfl⟩
    rw [hc.out]
end Go.Proofs.YtdckcophbmnjjaaGreatDoor
namespace Go.Proofs.YtdckcophbmnjjaaGreatDoor
open Go Go.Proofs.YtdckcophbmnjjaaGreatDoor.Ab
open Go.Proofs (Tryz.prog)
set_option maxRecDepth 100000
/-- A row of streams that is read. -/
def RdS (C : List Stm) (v : AVal) (m : Heap) : Prop := SlM encSc 7 C v m ∨ v = .list 7 (C.map encS)
theorem RdS.into {C : List Stm} {v : AVal} {m m2 : Heap} (h : RdS C v m) (s : Sub m m2) : RdS C v m2 := h.imp (fun h => h.into s) id
/-- How a row lies: behind a place, or as it was handed in; pre and post are empty where it does not lie behind a place. -/
theorem RdS.ways {C : List Stm} {v : AVal} {m : Heap} {L : Nat} (h : RdS C v m) (hL : L = C.length) : ∃ b pre post N cap, (v = .nils ∧ L = 0) ∨ (v = .slice b pre.length L cap ∧ m b = some (.cells (pre ++ (C.flatMap encSc ++ post)) N)) ∨ v = .list 7 (C.map encS) := by
  rcases h with (⟨h1, h2⟩ | ⟨b, blk, hb, pre, post, N, cap, h1, rfl, -, -⟩) | h
  · exact ⟨0, [], [], 0, 0, .inl ⟨h1, by rw [hL, h2]; rfl⟩⟩
  · exact ⟨b, pre, post, N, cap, .inr (.inl ⟨by rw [hL]; exact h1, hb⟩)⟩
  · exact ⟨0, [], [], 0, 0, .inr (.inr h)⟩
theorem sm_cell (C : List Stm) (pre post : List AVal) (i : Nat) (hi : i < C.length) (x : Stm) (hx : C.getD i default = x) (k : Nat) (hk : k < 7) :
    (pre ++ (C.flatMap encSc ++ post)).getD (pre.length + i * 7 + k) .undef = (encSc x).getD k .undef := by
  have h := row_at encSc_len C pre post i hi
  rw [hx] at h
  generalize pre ++ (C.flatMap encSc ++ post) = L at h
  generalize pre.length + i * 7 = a at h
  rw [← h]
  simp [List.getD_eq_getElem?_getD, List.getElem?_take, hk]
theorem sm_at (C : List Stm) (pre post : List AVal) (i : Nat) (hi : i < C.length) (x : Stm) (hx : C.getD i default = x) : ((pre ++ (C.flatMap encSc ++ post)).drop (pre.length + i * 7)).take 7 = encSc x := by
  rw [row_at encSc_len C pre post i hi, hx]
theorem sm_len (C : List Stm) (pre post : List AVal) (i : Nat) (hi : i < C.length) : pre.length + i * 7 + 7 ≤ (pre ++ (C.flatMap encSc ++ post)).length := row_len encSc_len C pre post i hi
theorem sm_lst (C : List Stm) (i : Nat) (h : i < C.length) (x : Stm) (hx : C.getD i default = x) : (C.map encS).getD i .undef = .agg (encSc x) := by
  rw [← hx]; simp [List.getD_eq_getElem?_getD, h, encS]
/-- The place of a stream. -/
def findF (C : List Stm) (id : Int) : Int := match C.findIdx? fun s => decide (s.1 = id) with
  | some i => (i : Int)
  | none => -1
theorem findF_at {C : List Stm} {id : Int} {i : Nat} (hi : i < C.length) (h : (C.getD i default).1 = id) (hb : ∀ s ∈ C.take i, s.1 ≠ id) : findF C id = i := by
  unfold findF
  have e : (C.findIdx? fun s => decide (s.1 = id)) = some i := by
    rw [List.findIdx?_eq_some_iff_getElem]
    refine ⟨hi, ?_, ?_⟩
    · have : C.getD i default = C[i] := by simp [List.getD_eq_getElem?_getD, hi]
      rw [← this, h]; simp
    · intro j hj
      have hm : C[j] ∈ C.take i := by
        rw [List.mem_take_iff_getElem]
        exact ⟨j, by omega, rfl⟩
      simpa using hb _ hm
  rw [e]
theorem findF_none {C : List Stm} {id : Int} (hb : ∀ s ∈ C, s.1 ≠ id) : findF C id = -1 := by
  unfold findF
  have e : (C.findIdx? fun s => decide (s.1 = id)) = none := by
    rw [List.findIdx?_eq_none_iff]
    intro s hs
    simpa using hb s hs
  rw [e]
set_option maxHeartbeats 1000000 in
theorem find_spec (G : Nat → AVal) (C : List Stm) (hl : C.length ≤ 1000) (id : Int) (v : AVal) (m : Heap) (hs : RdS C v m) : CallWP Tryz.prog G 30 [v, .int .i64 id] m fun v' m' => v' = .int .i64 (findF C id) ∧ m' = m := by
  obtain ⟨L, hL⟩ : ∃ L, L = C.length := ⟨_, rfl⟩
  have H0 := Hid.mk hL
  have ll : (C.map encS).length = L := by rw [List.length_map]; exact hL.symm
  obtain ⟨b, pre, post, N, cap, hw⟩ := hs.ways hL
  have lL : L ≤ 1000 := by omega
  clear hs hL hl
  rcases hw with ⟨hv, hz⟩ | ⟨hv, hb⟩ | hv
  all_goals (
    refine callWP_body Tryz.func30 rfl (N := 20) rfl (rs := [.tmp 4]) rfl en_30 (of_decide_eq_true rfl) ?_
    repeat' (first | exact tf0 ‹_› | exact tf1 ‹_› | exact False.elim ‹_› | (with_reducible refine Al.intro ?_; intro pb hpb; (try simp only [hupd_none'] at hpb); (repeat rcases hpb with ⟨⟨hpx, hpy⟩, hpb⟩)) | with_reducible refine need ?_ | ((with_reducible first | apply frk0 | apply frk1 | apply frk2 | apply frk3 | apply frk4 | apply frk5 | apply frk6 | apply frk7 | apply frk8 | apply frk9) <;> intro h <;> try (exfalso; omega)) | with_reducible refine quiet_and ?_ ?_ | with_reducible refine awp_drawnA mixed (by decide +kernel) ?_ | ((fail_if_success with_reducible refine stp ?_); simp -implicitDefEqProofs only [go_sem, Nat.reduceEqDiff, Nat.reduceAdd, Nat.reduceLT, Nat.reduceMul, Nat.reduceSub, Nat.reduceLeDiff, ↓reduceIte, reduceCtorEq, ↓String.reduceEq, String.reduceNe, Int.reduceToNat, Int.reduceLT, Int.reduceLE, Int.reduceGT, Int.reduceGE, Int.reduceEq, Int.reduceNe, Int.reduceBEq, Int.reduceBNe, Int.reduceAdd, Int.reduceSub, Int.reduceMul, Int.reduceNeg,  *]))
    refine awp_loopP 0 (fun ts m' => Hid (∀ s ∈ C, s.1 ≠ id) ∧ m' = m) (fun k ts m' => ∃ i : Nat, Hid (k = L - i ∧ i ≤ L ∧ ∀ s ∈ C.take i, s.1 ≠ id) ∧ ts 0 = v ∧ ts 1 = .int .i64 id ∧ ts 5 = .int .i64 (i : Nat) ∧ m' = m) L ⟨0, .mk ⟨rfl, Nat.zero_le _, by simp⟩, by simp [upd, hv], ttt, ttt, rfl⟩ ?_ ?_
    · rintro k ts m2 ⟨i, H, t0, t1, t5, hm2⟩
      subst m2
      by_cases hi : i < L
      · have lt : (i : Int) < (L : Int) := by omega
        have hiC : i < C.length := by have := H0.out; omega
        obtain ⟨x, hx⟩ : ∃ x, C.getD i default = x := ⟨_, rfl⟩
        have g1 := sm_cell C pre post i hiC x hx 0 (by decide)
        rw [Nat.add_zero, show (encSc x).getD 0 .undef = .int .i64 x.1 from rfl] at g1
        have g2 := sm_lst C i hiC x hx
        have l1 := sm_len C pre post i hiC
        have w1 : IntKind.i64.wrap ((i : Int) + 1) = ((i + 1 : Nat) : Int) := by rw [wrap_i64 (by omega) (by omega)]; omega
        have hCt : C.take (i + 1) = C.take i ++ [x] := by rw [← hx, List.take_add_one]; simp [List.getD_eq_getElem?_getD, hiC]
        have HX := Hid.mk (And.intro hx hCt)
        clear hx hCt hiC
        by_cases hq : x.1 = id
        · have HF : Hid (findF C id = (i : Int)) := .mk (findF_at (by have := H0.out; omega) (by rw [HX.out.1]; exact hq) H.out.2.2)
          repeat' (first | exact tf0 ‹_› | exact tf1 ‹_› | exact False.elim ‹_› | (with_reducible refine Al.intro ?_; intro pb hpb; (try simp only [hupd_none'] at hpb); (repeat rcases hpb with ⟨⟨hpx, hpy⟩, hpb⟩)) | with_reducible refine need ?_ | ((with_reducible first | apply frk0 | apply frk1 | apply frk2 | apply frk3 | apply frk4 | apply frk5 | apply frk6 | apply frk7 | apply frk8 | apply frk9) <;> intro h <;> try (exfalso; omega)) | with_reducible refine quiet_and ?_ ?_ | with_reducible refine awp_drawnA mixed (by decide +kernel) ?_ | ((fail_if_success with_reducible refine stp ?_); simp -implicitDefEqProofs only [go_sem, Nat.reduceEqDiff, Nat.reduceAdd, Nat.reduceLT, Nat.reduceMul, Nat.reduceSub, Nat.reduceLeDiff, ↓reduceIte, reduceCtorEq, ↓String.reduceEq, String.reduceNe, Int.reduceToNat, Int.reduceLT, Int.reduceLE, Int.reduceGT, Int.reduceGE, Int.reduceEq, Int.reduceNe, Int.reduceBEq, Int.reduceBNe, Int.reduceAdd, Int.reduceSub, Int.reduceMul, Int.reduceNeg,  encSc, *]))
          all_goals exact ⟨_, Sub.refl _, by rw [HF.out], rfl⟩
        · repeat' (first | exact tf0 ‹_› | exact tf1 ‹_› | exact False.elim ‹_› | (with_reducible refine Al.intro ?_; intro pb hpb; (try simp only [hupd_none'] at hpb); (repeat rcases hpb with ⟨⟨hpx, hpy⟩, hpb⟩)) | with_reducible refine need ?_ | ((with_reducible first | apply frk0 | apply frk1 | apply frk2 | apply frk3 | apply frk4 | apply frk5 | apply frk6 | apply frk7 | apply frk8 | apply frk9) <;> intro h <;> try (exfalso; omega)) | with_reducible refine quiet_and ?_ ?_ | with_reducible refine awp_drawnA mixed (by decide +kernel) ?_ | ((fail_if_success with_reducible refine stp ?_); simp -implicitDefEqProofs only [go_sem, Nat.reduceEqDiff, Nat.reduceAdd, Nat.reduceLT, Nat.reduceMul, Nat.reduceSub, Nat.reduceLeDiff, ↓reduceIte, reduceCtorEq, ↓String.reduceEq, String.reduceNe, Int.reduceToNat, Int.reduceLT, Int.reduceLE, Int.reduceGT, Int.reduceGE, Int.reduceEq, Int.reduceNe, Int.reduceBEq, Int.reduceBNe, Int.reduceAdd, Int.reduceSub, Int.reduceMul, Int.reduceNeg,  encSc, *]))
          all_goals exact Again.intro ⟨L - (i + 1), by have := H.out; omega, _, Sub.refl _, i + 1, .mk ⟨rfl, by omega, fun s hs => by
            rw [HX.out.2] at hs
            rcases List.mem_append.1 hs with hs | hs
            · exact H.out.2.2 s hs
            · rw [List.mem_singleton.1 hs]; exact hq⟩, (by first | (simp only [upd, put, Nat.reduceEqDiff, ↓reduceIte, t0, hv]; done) | (simp [upd, put, t0, hv]; done) | rfl | (simp [upd, put, t0, hv]; rfl)), (by first | (simp only [upd, put, Nat.reduceEqDiff, ↓reduceIte, t1]; done) | (simp [upd, put, t1]; done) | rfl | (simp [upd, put, t1]; rfl)), ttt, rfl⟩
      · have lt : ¬ (i : Int) < (L : Int) := by omega
        repeat' (first | exact tf0 ‹_› | exact tf1 ‹_› | exact False.elim ‹_› | (with_reducible refine Al.intro ?_; intro pb hpb; (try simp only [hupd_none'] at hpb); (repeat rcases hpb with ⟨⟨hpx, hpy⟩, hpb⟩)) | with_reducible refine need ?_ | ((with_reducible first | apply frk0 | apply frk1 | apply frk2 | apply frk3 | apply frk4 | apply frk5 | apply frk6 | apply frk7 | apply frk8 | apply frk9) <;> intro h <;> try (exfalso; omega)) | with_reducible refine quiet_and ?_ ?_ | with_reducible refine awp_drawnA mixed (by decide +kernel) ?_ | ((fail_if_success with_reducible refine stp ?_); simp -implicitDefEqProofs only [go_sem, Nat.reduceEqDiff, Nat.reduceAdd, Nat.reduceLT, Nat.reduceMul, Nat.reduceSub, Nat.reduceLeDiff, ↓reduceIte, reduceCtorEq, ↓String.reduceEq, String.reduceNe, Int.reduceToNat, Int.reduceLT, Int.reduceLE, Int.reduceGT, Int.reduceGE, Int.reduceEq, Int.reduceNe, Int.reduceBEq, Int.reduceBNe, Int.reduceAdd, Int.reduceSub, Int.reduceMul, Int.reduceNeg,  *]))
        exact Again.intro ⟨.mk (by have h := H.out.2.2; rwa [List.take_of_length_le (by have := H0.out; omega)] at h), rfl⟩
    · rintro ts m2 ⟨H, hm2⟩
      subst m2
      have HF : Hid (findF C id = -1) := .mk (findF_none H.out)
      repeat' (first | exact tf0 ‹_› | exact tf1 ‹_› | exact False.elim ‹_› | (with_reducible refine Al.intro ?_; intro pb hpb; (try simp only [hupd_none'] at hpb); (repeat rcases hpb with ⟨⟨hpx, hpy⟩, hpb⟩)) | with_reducible refine need ?_ | ((with_reducible first | apply frk0 | apply frk1 | apply frk2 | apply frk3 | apply frk4 | apply frk5 | apply frk6 | apply frk7 | apply frk8 | apply frk9) <;> intro h <;> try (exfalso; omega)) | with_reducible refine quiet_and ?_ ?_ | with_reducible refine awp_drawnA mixed (by decide +kernel) ?_ | ((fail_if_success with_reducible refine stp ?_); simp -implicitDefEqProofs only [go_sem, Nat.reduceEqDiff, Nat.reduceAdd, Nat.reduceLT, Nat.reduceMul, Nat.reduceSub, Nat.reduceLeDiff, ↓reduceIte, reduceCtorEq, ↓String.reduceEq, String.reduceNe, Int.reduceToNat, Int.reduceLT, Int.reduceLE, Int.reduceGT, Int.reduceGE, Int.reduceEq, Int.reduceNe, Int.reduceBEq, Int.reduceBNe, Int.reduceAdd, Int.reduceSub, Int.reduceMul, Int.reduceNeg,  *]))
      exact ⟨_, Sub.refl _, by rw [HF.out], rfl⟩)
end Go.Proofs.YtdckcophbmnjjaaGreatDoor
namespace Go.Proofs.YtdckcophbmnjjaaGreatDoor
open Go Go.Proofs.YtdckcophbmnjjaaGreatDoor.Ab
open Go.Proofs (Tryz.prog)
set_option maxRecDepth 100000
/-- May streams and a length be? -/
def rightC (C : List Stm) (n : Int) : Prop := C.length ≤ 64 ∧ (1 ≤ n ∧ n ≤ 1073741824) ∧ (∀ s ∈ C, rightS s = 0) ∧ (∀ i, i < C.length → (i : Int) ≤ findF C (C.getD i default).1) ∧ ∀ s ∈ C, s.2.2.1 = 1 → n ≤ s.2.2.2.2.1
theorem take_one (C : List Stm) (i : Nat) (h : i < C.length) : C.take (i + 1) = C.take i ++ [C.getD i default] := by
  rw [List.take_add_one]; simp [List.getD_eq_getElem?_getD, h]
theorem findF_le {C : List Stm} {i : Nat} (hi : i < C.length) : findF C (C.getD i default).1 ≤ (i : Int) := by
  unfold findF
  have hx : C.getD i default = C[i] := by simp [List.getD_eq_getElem?_getD, hi]
  cases h : C.findIdx? fun s => decide (s.1 = (C.getD i default).1) with
  | none =>
    rw [List.findIdx?_eq_none_iff] at h
    have := h C[i] (List.getElem_mem hi)
    rw [hx] at this
    simp at this
  | some j =>
    rw [List.findIdx?_eq_some_iff_getElem] at h
    obtain ⟨hj, -, hb⟩ := h
    by_cases hji : j ≤ i
    · simpa using hji
    · have := hb i (by omega)
      rw [hx] at this
      simp at this
def e2F (C : List Stm) (i : Nat) : Int := if findF C (C.getD i default).1 ≠ i then 13 else 0
def e3F (n : Int) (x : Stm) : Int := if x.2.2.1 = 1 ∧ x.2.2.2.2.1 < n then 9 else 0
/-- The first that is not 0. -/
def fstE (f : Nat → Int) : Nat → Int
  | 0 => 0
  | n + 1 => if fstE f n ≠ 0 then fstE f n else f n
theorem fstE_zero {f : Nat → Int} : ∀ {n : Nat}, (∀ i, i < n → f i = 0) → fstE f n = 0
  | 0, _ => rfl
  | n + 1, h => by unfold fstE; rw [if_neg (by rw [fstE_zero (fun i hi => h i (by omega))]; simp)]; exact h n (by omega)
theorem fstE_at {f : Nat → Int} {i : Nat} : ∀ {n : Nat}, i < n → (∀ j, j < i → f j = 0) → f i ≠ 0 → fstE f n = f i
  | 0, h, _, _ => by omega
  | n + 1, h, h0, h1 => by
    unfold fstE
    by_cases e : i = n
    · subst e; rw [fstE_zero h0, if_neg (by simp)]
    · rw [fstE_at (by omega) h0 h1, if_pos h1]
/-- What is wrong with streams, and a length. -/
def chkE (C : List Stm) (n : Int) : Int :=
  if 64 < C.length then 11 else if n < 1 ∨ 1073741824 < n then 1 else
  if fstE (fun i => rightS (C.getD i default)) C.length ≠ 0 then fstE (fun i => rightS (C.getD i default)) C.length else
  if fstE (e2F C) C.length ≠ 0 then fstE (e2F C) C.length else fstE (fun i => e3F n (C.getD i default)) C.length
theorem chkE_len {C : List Stm} {n : Int} (h : ¬ C.length ≤ 64) : 11 = chkE C n := by unfold chkE; rw [if_pos (by omega)]
theorem chkE_n {C : List Stm} {n : Int} (h : C.length ≤ 64) (hn : ¬ (1 ≤ n ∧ n ≤ 1073741824)) : 1 = chkE C n := by unfold chkE; rw [if_neg (by omega), if_pos (by omega)]
theorem chkE_1 {C : List Stm} {n : Int} {i : Nat} (h : C.length ≤ 64) (hn : 1 ≤ n ∧ n ≤ 1073741824) (hi : i < C.length) (h0 : ∀ j, j < i → rightS (C.getD j default) = 0) (h1 : rightS (C.getD i default) ≠ 0) : rightS (C.getD i default) = chkE C n := by
  unfold chkE
  have e := fstE_at (f := fun i => rightS (C.getD i default)) hi h0 h1
  rw [if_neg (by omega), if_neg (by omega), if_pos (by rw [e]; exact h1), e]
theorem chkE_2 {C : List Stm} {n : Int} {i : Nat} (h : C.length ≤ 64) (hn : 1 ≤ n ∧ n ≤ 1073741824) (hr : ∀ j, j < C.length → rightS (C.getD j default) = 0) (hi : i < C.length) (h0 : ∀ j, j < i → e2F C j = 0) (h1 : e2F C i ≠ 0) : e2F C i = chkE C n := by
  unfold chkE
  have e := fstE_at hi h0 h1
  rw [if_neg (by omega), if_neg (by omega), if_neg (by rw [fstE_zero hr]; simp), if_pos (by rw [e]; exact h1), e]
theorem chkE_3 {C : List Stm} {n : Int} {i : Nat} (h : C.length ≤ 64) (hn : 1 ≤ n ∧ n ≤ 1073741824) (hr : ∀ j, j < C.length → rightS (C.getD j default) = 0) (h2 : ∀ j, j < C.length → e2F C j = 0) (hi : i < C.length) (h0 : ∀ j, j < i → e3F n (C.getD j default) = 0) (h1 : e3F n (C.getD i default) ≠ 0) : e3F n (C.getD i default) = chkE C n := by
  unfold chkE
  have e := fstE_at (f := fun i => e3F n (C.getD i default)) hi h0 h1
  rw [if_neg (by omega), if_neg (by omega), if_neg (by rw [fstE_zero hr]; simp), if_neg (by rw [fstE_zero h2]; simp), e]
theorem chkE_0 {C : List Stm} {n : Int} (h : C.length ≤ 64) (hn : 1 ≤ n ∧ n ≤ 1073741824) (hr : ∀ j, j < C.length → rightS (C.getD j default) = 0) (h2 : ∀ j, j < C.length → e2F C j = 0) (h3 : ∀ j, j < C.length → e3F n (C.getD j default) = 0) : 0 = chkE C n := by
  unfold chkE
  rw [if_neg (by omega), if_neg (by omega), if_neg (by rw [fstE_zero hr]; simp), if_neg (by rw [fstE_zero h2]; simp), fstE_zero h3]
theorem tk_at {C : List Stm} {i j : Nat} (h : j < i) (hj : j < C.length) : C.getD j default ∈ C.take i := by
  rw [List.mem_take_iff_getElem]; exact ⟨j, by omega, by simp [List.getD_eq_getElem?_getD, hj]⟩
theorem chkE_iff (C : List Stm) (n : Int) : chkE C n = 0 ↔ rightC C n := by
  have get : ∀ s ∈ C, ∃ i, i < C.length ∧ C.getD i default = s := fun s hs => by
    obtain ⟨i, hi, he⟩ := List.getElem_of_mem hs
    exact ⟨i, hi, by simp [List.getD_eq_getElem?_getD, hi, he]⟩
  by_cases h : C.length ≤ 64
  · by_cases hn : 1 ≤ n ∧ n ≤ 1073741824
    · have pick : ∀ f : Nat → Int, (∀ j, j < C.length → f j = 0) ∨ ∃ i, i < C.length ∧ (∀ j, j < i → f j = 0) ∧ f i ≠ 0 := fun f => by
        generalize C.length = L
        induction L with
        | zero => exact .inl fun j hj => absurd hj (by omega)
        | succ L ih =>
          rcases ih with ih | ⟨i, hi, h1, h2⟩
          · by_cases e : f L = 0
            · exact .inl fun j hj => by
                by_cases ej : j = L
                · rw [ej, e]
                · exact ih j (by omega)
            · exact .inr ⟨L, by omega, ih, e⟩
          · exact .inr ⟨i, by omega, h1, h2⟩
      rcases pick (fun i => rightS (C.getD i default)) with h1 | ⟨i, hi, h0, h1⟩
      · rcases pick (e2F C) with h2 | ⟨i, hi, h0, h2⟩
        · rcases pick (fun i => e3F n (C.getD i default)) with h3 | ⟨i, hi, h0, h3⟩
          · refine ⟨fun _ => ⟨h, hn, fun s hs => ?_, fun i hi => ?_, fun s hs hc => ?_⟩, fun _ => (chkE_0 h hn h1 h2 h3).symm⟩
            · obtain ⟨i, hi, rfl⟩ := get s hs; exact h1 i hi
            · have := h2 i hi
              unfold e2F at this; split at this <;> omega
            · obtain ⟨i, hi, rfl⟩ := get s hs
              have := h3 i hi
              unfold e3F at this; split at this
              · omega
              · rename_i h5; simp only [hc, true_and] at h5; omega
          · rw [← chkE_3 h hn h1 h2 hi h0 h3]
            refine ⟨fun e => absurd e h3, fun hr => ?_⟩
            have h4 := hr.2.2.2.2 (C.getD i default) (getD_mem C i hi)
            unfold e3F; rw [if_neg (fun h5 => by have := h4 h5.1; omega)]
        · rw [← chkE_2 h hn h1 hi h0 h2]
          refine ⟨fun e => absurd e h2, fun hr => ?_⟩
          have h4 := hr.2.2.2.1 i hi
          have h5 := findF_le hi
          unfold e2F; rw [if_neg (by omega)]
      · rw [← chkE_1 h hn hi h0 h1]
        exact ⟨fun e => absurd e h1, fun hr => hr.2.2.1 _ (getD_mem C i hi)⟩
    · rw [← chkE_n h hn]
      exact ⟨fun e => absurd e (by decide), fun hr => absurd hr.2.1 hn⟩
  · rw [← chkE_len h]
    exact ⟨fun e => absurd e (by decide), fun hr => absurd hr.1 h⟩
set_option maxHeartbeats 4000000 in
theorem check25E_spec (G : Nat → AVal) (C : List Stm) (hl : C.length < 9223372036854775808) (n : Int) (v : AVal) (m : Heap) (hs : RdS C v m) (K : AVal → Heap → Prop)
    (hK : ∀ k e : Int, e = chkE C n → K (.tuple [.int .i64 k, .int .i64 e]) m) : CallWP Tryz.prog G 18 [v, .int .i64 n] m K := by
  have HK := Hid.mk hK
  clear hK
  have HS := Hid.mk hs
  obtain ⟨L, hL⟩ : ∃ L, L = C.length := ⟨_, rfl⟩
  have H0 := Hid.mk hL
  have ll : (C.map encS).length = L := by rw [List.length_map]; exact hL.symm
  obtain ⟨b, pre, post, N, cap, hw⟩ := hs.ways hL
  have lL : L < 9223372036854775808 := by omega
  clear hs hL hl
  rcases hw with ⟨hv, hz⟩ | ⟨hv, hb⟩ | hv
  all_goals (
    by_cases h64 : L ≤ 64
    · have n0 : ¬ (64 : Int) < (L : Int) := by omega
      by_cases hn1 : 1 ≤ n
      · by_cases hn2 : n ≤ 1073741824
        · have n1 : ¬ n < 1 := by omega
          have n2 : ¬ 1073741824 < n := by omega
          have HN := Hid.mk (And.intro hn1 hn2)
          clear hn1 hn2
          refine callWP_body Tryz.func18 rfl (N := 74) rfl (rs := [.tmp 4, .tmp 5]) rfl en_18 (of_decide_eq_true rfl) ?_
          repeat' (first | exact tf0 ‹_› | exact tf1 ‹_› | exact False.elim ‹_› | (with_reducible refine Al.intro ?_; intro pb hpb; (try simp only [hupd_none'] at hpb); (repeat rcases hpb with ⟨⟨hpx, hpy⟩, hpb⟩)) | with_reducible refine need ?_ | ((with_reducible first | apply frk0 | apply frk1 | apply frk2 | apply frk3 | apply frk4 | apply frk5 | apply frk6 | apply frk7 | apply frk8 | apply frk9) <;> intro h <;> try (exfalso; omega)) | with_reducible refine quiet_and ?_ ?_ | with_reducible refine awp_drawnA mixed (by decide +kernel) ?_ | ((fail_if_success with_reducible refine stp ?_); simp -implicitDefEqProofs only [go_sem, Nat.reduceEqDiff, Nat.reduceAdd, Nat.reduceLT, Nat.reduceMul, Nat.reduceSub, Nat.reduceLeDiff, ↓reduceIte, reduceCtorEq, ↓String.reduceEq, String.reduceNe, Int.reduceToNat, Int.reduceLT, Int.reduceLE, Int.reduceGT, Int.reduceGE, Int.reduceEq, Int.reduceNe, Int.reduceBEq, Int.reduceBNe, Int.reduceAdd, Int.reduceSub, Int.reduceMul, Int.reduceNeg,  *]))
          refine awp_loopP 0 (fun ts m' => Hid (∀ s ∈ C, rightS s = 0) ∧ ts 0 = v ∧ ts 1 = .int .i64 n ∧ m' = m) (fun k ts m' => ∃ i : Nat, Hid (k = L - i ∧ i ≤ L ∧ ∀ s ∈ C.take i, rightS s = 0) ∧ ts 0 = v ∧ ts 1 = .int .i64 n ∧ ts 6 = .int .i64 (i : Nat) ∧ m' = m) L ⟨0, .mk ⟨rfl, Nat.zero_le _, by simp⟩, by simp [upd, hv], ttt, ttt, rfl⟩ ?_ ?_
          · rintro k ts m2 ⟨i, H, t0, t1, t6, hm2⟩
            subst m2
            by_cases hi : i < L
            · have lt : (i : Int) < (L : Int) := by omega
              have hiC : i < C.length := by have := H0.out; omega
              obtain ⟨x, hx⟩ : ∃ x, C.getD i default = x := ⟨_, rfl⟩
              have g1 := sm_at C pre post i hiC x hx
              have g2 := sm_lst C i hiC x hx
              have l1 := sm_len C pre post i hiC
              have w1 : IntKind.i64.wrap ((i : Int) + 1) = ((i + 1 : Nat) : Int) := by rw [wrap_i64 (by omega) (by omega)]; omega
              have hCt := take_one C i hiC
              have hxm : x ∈ C := by rw [← hx]; exact getD_mem C i hiC
              have HX := Hid.mk (And.intro hx (And.intro hCt hxm))
              obtain ⟨e, he⟩ : ∃ e, e = rightS x := ⟨_, rfl⟩
              have HE := Hid.mk he
              clear hx hCt hiC hxm he
              repeat' (first | exact tf0 ‹_› | exact tf1 ‹_› | exact False.elim ‹_› | (with_reducible refine Al.intro ?_; intro pb hpb; (try simp only [hupd_none'] at hpb); (repeat rcases hpb with ⟨⟨hpx, hpy⟩, hpb⟩)) | with_reducible refine need ?_ | ((with_reducible first | apply frk0 | apply frk1 | apply frk2 | apply frk3 | apply frk4 | apply frk5 | apply frk6 | apply frk7 | apply frk8 | apply frk9) <;> intro h <;> try (exfalso; omega)) | with_reducible refine quiet_and ?_ ?_ | with_reducible refine awp_drawnA mixed (by decide +kernel) ?_ | ((fail_if_success with_reducible refine stp ?_); simp -implicitDefEqProofs only [go_sem, Nat.reduceEqDiff, Nat.reduceAdd, Nat.reduceLT, Nat.reduceMul, Nat.reduceSub, Nat.reduceLeDiff, ↓reduceIte, reduceCtorEq, ↓String.reduceEq, String.reduceNe, Int.reduceToNat, Int.reduceLT, Int.reduceLE, Int.reduceGT, Int.reduceGE, Int.reduceEq, Int.reduceNe, Int.reduceBEq, Int.reduceBNe, Int.reduceAdd, Int.reduceSub, Int.reduceMul, Int.reduceNeg,  *]))
              all_goals (
                refine CallWP.to (sright_spec G x _) ?_
                rw [← HE.out]
                by_cases he0 : e = 0
                · repeat' (first | exact tf0 ‹_› | exact tf1 ‹_› | exact False.elim ‹_› | (with_reducible refine Al.intro ?_; intro pb hpb; (try simp only [hupd_none'] at hpb); (repeat rcases hpb with ⟨⟨hpx, hpy⟩, hpb⟩)) | with_reducible refine need ?_ | ((with_reducible first | apply frk0 | apply frk1 | apply frk2 | apply frk3 | apply frk4 | apply frk5 | apply frk6 | apply frk7 | apply frk8 | apply frk9) <;> intro h <;> try (exfalso; omega)) | with_reducible refine quiet_and ?_ ?_ | with_reducible refine awp_drawnA mixed (by decide +kernel) ?_ | ((fail_if_success with_reducible refine stp ?_); simp -implicitDefEqProofs only [go_sem, Nat.reduceEqDiff, Nat.reduceAdd, Nat.reduceLT, Nat.reduceMul, Nat.reduceSub, Nat.reduceLeDiff, ↓reduceIte, reduceCtorEq, ↓String.reduceEq, String.reduceNe, Int.reduceToNat, Int.reduceLT, Int.reduceLE, Int.reduceGT, Int.reduceGE, Int.reduceEq, Int.reduceNe, Int.reduceBEq, Int.reduceBNe, Int.reduceAdd, Int.reduceSub, Int.reduceMul, Int.reduceNeg,  *]))
                  exact Again.intro ⟨L - (i + 1), by have := H.out; omega, _, Sub.refl _, i + 1, .mk ⟨rfl, by omega, fun s hs => by
                    rw [HX.out.2.1, HX.out.1] at hs
                    rcases List.mem_append.1 hs with hs | hs
                    · exact H.out.2.2 s hs
                    · rw [List.mem_singleton.1 hs, ← HE.out]; exact he0⟩, (by first | (simp only [upd, put, Nat.reduceEqDiff, ↓reduceIte, t0, hv]; done) | (simp [upd, put, t0, hv]; done) | rfl | (simp [upd, put, t0, hv]; rfl)), (by first | (simp only [upd, put, Nat.reduceEqDiff, ↓reduceIte, t1]; done) | (simp [upd, put, t1]; done) | rfl | (simp [upd, put, t1]; rfl)), ttt, rfl⟩
                · repeat' (first | exact tf0 ‹_› | exact tf1 ‹_› | exact False.elim ‹_› | (with_reducible refine Al.intro ?_; intro pb hpb; (try simp only [hupd_none'] at hpb); (repeat rcases hpb with ⟨⟨hpx, hpy⟩, hpb⟩)) | with_reducible refine need ?_ | ((with_reducible first | apply frk0 | apply frk1 | apply frk2 | apply frk3 | apply frk4 | apply frk5 | apply frk6 | apply frk7 | apply frk8 | apply frk9) <;> intro h <;> try (exfalso; omega)) | with_reducible refine quiet_and ?_ ?_ | with_reducible refine awp_drawnA mixed (by decide +kernel) ?_ | ((fail_if_success with_reducible refine stp ?_); simp -implicitDefEqProofs only [go_sem, Nat.reduceEqDiff, Nat.reduceAdd, Nat.reduceLT, Nat.reduceMul, Nat.reduceSub, Nat.reduceLeDiff, ↓reduceIte, reduceCtorEq, ↓String.reduceEq, String.reduceNe, Int.reduceToNat, Int.reduceLT, Int.reduceLE, Int.reduceGT, Int.reduceGE, Int.reduceEq, Int.reduceNe, Int.reduceBEq, Int.reduceBNe, Int.reduceAdd, Int.reduceSub, Int.reduceMul, Int.reduceNeg,  *]))
                  refine ⟨_, Sub.refl _, ?_⟩
                  simp only [upd, put, Nat.reduceEqDiff, ↓reduceIte, t6]
                  exact HK.out (i : Int) e (by rw [HE.out, ← HX.out.1]; exact chkE_1 (by have := H0.out; omega) HN.out (by have := H0.out; omega) (fun j hj => H.out.2.2 _ (tk_at hj (by have := H0.out; omega))) (by rw [HX.out.1, ← HE.out]; exact he0)))
            · have lt : ¬ (i : Int) < (L : Int) := by omega
              repeat' (first | exact tf0 ‹_› | exact tf1 ‹_› | exact False.elim ‹_› | (with_reducible refine Al.intro ?_; intro pb hpb; (try simp only [hupd_none'] at hpb); (repeat rcases hpb with ⟨⟨hpx, hpy⟩, hpb⟩)) | with_reducible refine need ?_ | ((with_reducible first | apply frk0 | apply frk1 | apply frk2 | apply frk3 | apply frk4 | apply frk5 | apply frk6 | apply frk7 | apply frk8 | apply frk9) <;> intro h <;> try (exfalso; omega)) | with_reducible refine quiet_and ?_ ?_ | with_reducible refine awp_drawnA mixed (by decide +kernel) ?_ | ((fail_if_success with_reducible refine stp ?_); simp -implicitDefEqProofs only [go_sem, Nat.reduceEqDiff, Nat.reduceAdd, Nat.reduceLT, Nat.reduceMul, Nat.reduceSub, Nat.reduceLeDiff, ↓reduceIte, reduceCtorEq, ↓String.reduceEq, String.reduceNe, Int.reduceToNat, Int.reduceLT, Int.reduceLE, Int.reduceGT, Int.reduceGE, Int.reduceEq, Int.reduceNe, Int.reduceBEq, Int.reduceBNe, Int.reduceAdd, Int.reduceSub, Int.reduceMul, Int.reduceNeg,  *]))
              exact Again.intro ⟨.mk (by have h := H.out.2.2; rwa [List.take_of_length_le (by have := H0.out; omega)] at h), (by first | (simp only [upd, put, Nat.reduceEqDiff, ↓reduceIte, t0, hv]; done) | (simp [upd, put, t0, hv]; done) | rfl | (simp [upd, put, t0, hv]; rfl)), (by first | (simp only [upd, put, Nat.reduceEqDiff, ↓reduceIte, t1]; done) | (simp [upd, put, t1]; done) | rfl | (simp [upd, put, t1]; rfl)), rfl⟩
          · rintro ts m2 ⟨HA, t0, t1, hm2⟩
            subst m2
            repeat' (first | exact tf0 ‹_› | exact tf1 ‹_› | exact False.elim ‹_› | (with_reducible refine Al.intro ?_; intro pb hpb; (try simp only [hupd_none'] at hpb); (repeat rcases hpb with ⟨⟨hpx, hpy⟩, hpb⟩)) | with_reducible refine need ?_ | ((with_reducible first | apply frk0 | apply frk1 | apply frk2 | apply frk3 | apply frk4 | apply frk5 | apply frk6 | apply frk7 | apply frk8 | apply frk9) <;> intro h <;> try (exfalso; omega)) | with_reducible refine quiet_and ?_ ?_ | with_reducible refine awp_drawnA mixed (by decide +kernel) ?_ | ((fail_if_success with_reducible refine stp ?_); simp -implicitDefEqProofs only [go_sem, Nat.reduceEqDiff, Nat.reduceAdd, Nat.reduceLT, Nat.reduceMul, Nat.reduceSub, Nat.reduceLeDiff, ↓reduceIte, reduceCtorEq, ↓String.reduceEq, String.reduceNe, Int.reduceToNat, Int.reduceLT, Int.reduceLE, Int.reduceGT, Int.reduceGE, Int.reduceEq, Int.reduceNe, Int.reduceBEq, Int.reduceBNe, Int.reduceAdd, Int.reduceSub, Int.reduceMul, Int.reduceNeg,  *]))
            refine awp_loopP 2 (fun ts m' => Hid (∀ i, i < C.length → (i : Int) ≤ findF C (C.getD i default).1) ∧ ts 0 = v ∧ ts 1 = .int .i64 n ∧ m' = m) (fun k ts m' => ∃ i : Nat, Hid (k = L - i ∧ i ≤ L ∧ ∀ j, j < i → (j : Int) ≤ findF C (C.getD j default).1) ∧ ts 0 = v ∧ ts 1 = .int .i64 n ∧ ts 8 = .int .i64 (i : Nat) ∧ m' = m) L ⟨0, .mk ⟨rfl, Nat.zero_le _, fun j hj => absurd hj (by omega)⟩, by simp [upd, t0, hv], by simp [upd, t1], ttt, rfl⟩ ?_ ?_
            · clear t0 t1
              rintro k ts m2 ⟨i, H, t0, t1, t8, hm2⟩
              subst m2
              by_cases hi : i < L
              · have lt : (i : Int) < (L : Int) := by omega
                have hiC : i < C.length := by have := H0.out; omega
                obtain ⟨x, hx⟩ : ∃ x, C.getD i default = x := ⟨_, rfl⟩
                have g1 := sm_cell C pre post i hiC x hx 0 (by decide)
                rw [Nat.add_zero, show (encSc x).getD 0 .undef = .int .i64 x.1 from rfl] at g1
                have g2 := sm_lst C i hiC x hx
                have l1 := sm_len C pre post i hiC
                have w1 : IntKind.i64.wrap ((i : Int) + 1) = ((i + 1 : Nat) : Int) := by rw [wrap_i64 (by omega) (by omega)]; omega
                have HX := Hid.mk hx
                obtain ⟨f, hf⟩ : ∃ f, f = findF C x.1 := ⟨_, rfl⟩
                have HF := Hid.mk hf
                clear hx hiC hf
                repeat' (first | exact tf0 ‹_› | exact tf1 ‹_› | exact False.elim ‹_› | (with_reducible refine Al.intro ?_; intro pb hpb; (try simp only [hupd_none'] at hpb); (repeat rcases hpb with ⟨⟨hpx, hpy⟩, hpb⟩)) | with_reducible refine need ?_ | ((with_reducible first | apply frk0 | apply frk1 | apply frk2 | apply frk3 | apply frk4 | apply frk5 | apply frk6 | apply frk7 | apply frk8 | apply frk9) <;> intro h <;> try (exfalso; omega)) | with_reducible refine quiet_and ?_ ?_ | with_reducible refine awp_drawnA mixed (by decide +kernel) ?_ | ((fail_if_success with_reducible refine stp ?_); simp -implicitDefEqProofs only [go_sem, Nat.reduceEqDiff, Nat.reduceAdd, Nat.reduceLT, Nat.reduceMul, Nat.reduceSub, Nat.reduceLeDiff, ↓reduceIte, reduceCtorEq, ↓String.reduceEq, String.reduceNe, Int.reduceToNat, Int.reduceLT, Int.reduceLE, Int.reduceGT, Int.reduceGE, Int.reduceEq, Int.reduceNe, Int.reduceBEq, Int.reduceBNe, Int.reduceAdd, Int.reduceSub, Int.reduceMul, Int.reduceNeg,  encSc, *]))
                all_goals (
                  rw [← hv]
                  refine CallWP.to (find_spec G C (by have := H0.out; omega) x.1 v m HS.out) ?_
                  rw [← HF.out]
                  by_cases hq : f < (i : Int)
                  · repeat' (first | exact tf0 ‹_› | exact tf1 ‹_› | exact False.elim ‹_› | (with_reducible refine Al.intro ?_; intro pb hpb; (try simp only [hupd_none'] at hpb); (repeat rcases hpb with ⟨⟨hpx, hpy⟩, hpb⟩)) | with_reducible refine need ?_ | ((with_reducible first | apply frk0 | apply frk1 | apply frk2 | apply frk3 | apply frk4 | apply frk5 | apply frk6 | apply frk7 | apply frk8 | apply frk9) <;> intro h <;> try (exfalso; omega)) | with_reducible refine quiet_and ?_ ?_ | with_reducible refine awp_drawnA mixed (by decide +kernel) ?_ | ((fail_if_success with_reducible refine stp ?_); simp -implicitDefEqProofs only [go_sem, Nat.reduceEqDiff, Nat.reduceAdd, Nat.reduceLT, Nat.reduceMul, Nat.reduceSub, Nat.reduceLeDiff, ↓reduceIte, reduceCtorEq, ↓String.reduceEq, String.reduceNe, Int.reduceToNat, Int.reduceLT, Int.reduceLE, Int.reduceGT, Int.reduceGE, Int.reduceEq, Int.reduceNe, Int.reduceBEq, Int.reduceBNe, Int.reduceAdd, Int.reduceSub, Int.reduceMul, Int.reduceNeg,  *]))
                    exact ⟨_, Sub.refl _, HK.out _ _ (by
                      have he2 : e2F C i = 13 := by unfold e2F; rw [HX.out, ← HF.out, if_pos (by omega)]
                      rw [← he2]
                      exact chkE_2 (by have := H0.out; omega) HN.out (fun j hj => HA.out _ (getD_mem C j hj)) (by have := H0.out; omega) (fun j hj => by have h1 := H.out.2.2 j hj; have h2 := findF_le (C := C) (i := j) (by have := H0.out; omega); unfold e2F; rw [if_neg (by omega)]) (by rw [he2]; decide))⟩
                  · repeat' (first | exact tf0 ‹_› | exact tf1 ‹_› | exact False.elim ‹_› | (with_reducible refine Al.intro ?_; intro pb hpb; (try simp only [hupd_none'] at hpb); (repeat rcases hpb with ⟨⟨hpx, hpy⟩, hpb⟩)) | with_reducible refine need ?_ | ((with_reducible first | apply frk0 | apply frk1 | apply frk2 | apply frk3 | apply frk4 | apply frk5 | apply frk6 | apply frk7 | apply frk8 | apply frk9) <;> intro h <;> try (exfalso; omega)) | with_reducible refine quiet_and ?_ ?_ | with_reducible refine awp_drawnA mixed (by decide +kernel) ?_ | ((fail_if_success with_reducible refine stp ?_); simp -implicitDefEqProofs only [go_sem, Nat.reduceEqDiff, Nat.reduceAdd, Nat.reduceLT, Nat.reduceMul, Nat.reduceSub, Nat.reduceLeDiff, ↓reduceIte, reduceCtorEq, ↓String.reduceEq, String.reduceNe, Int.reduceToNat, Int.reduceLT, Int.reduceLE, Int.reduceGT, Int.reduceGE, Int.reduceEq, Int.reduceNe, Int.reduceBEq, Int.reduceBNe, Int.reduceAdd, Int.reduceSub, Int.reduceMul, Int.reduceNeg,  *]))
                    exact Again.intro ⟨L - (i + 1), by have := H.out; omega, _, Sub.refl _, i + 1, .mk ⟨rfl, by omega, fun j hj => by
                      by_cases hji : j = i
                      · rw [hji, HX.out, ← HF.out]; omega
                      · exact H.out.2.2 j (by omega)⟩, (by first | (simp only [upd, put, Nat.reduceEqDiff, ↓reduceIte, t0, hv]; done) | (simp [upd, put, t0, hv]; done) | rfl | (simp [upd, put, t0, hv]; rfl)), (by first | (simp only [upd, put, Nat.reduceEqDiff, ↓reduceIte, t1]; done) | (simp [upd, put, t1]; done) | rfl | (simp [upd, put, t1]; rfl)), ttt, rfl⟩)
              · have lt : ¬ (i : Int) < (L : Int) := by omega
                repeat' (first | exact tf0 ‹_› | exact tf1 ‹_› | exact False.elim ‹_› | (with_reducible refine Al.intro ?_; intro pb hpb; (try simp only [hupd_none'] at hpb); (repeat rcases hpb with ⟨⟨hpx, hpy⟩, hpb⟩)) | with_reducible refine need ?_ | ((with_reducible first | apply frk0 | apply frk1 | apply frk2 | apply frk3 | apply frk4 | apply frk5 | apply frk6 | apply frk7 | apply frk8 | apply frk9) <;> intro h <;> try (exfalso; omega)) | with_reducible refine quiet_and ?_ ?_ | with_reducible refine awp_drawnA mixed (by decide +kernel) ?_ | ((fail_if_success with_reducible refine stp ?_); simp -implicitDefEqProofs only [go_sem, Nat.reduceEqDiff, Nat.reduceAdd, Nat.reduceLT, Nat.reduceMul, Nat.reduceSub, Nat.reduceLeDiff, ↓reduceIte, reduceCtorEq, ↓String.reduceEq, String.reduceNe, Int.reduceToNat, Int.reduceLT, Int.reduceLE, Int.reduceGT, Int.reduceGE, Int.reduceEq, Int.reduceNe, Int.reduceBEq, Int.reduceBNe, Int.reduceAdd, Int.reduceSub, Int.reduceMul, Int.reduceNeg,  *]))
                exact Again.intro ⟨.mk fun j hj => H.out.2.2 j (by have := H0.out; omega), (by first | (simp only [upd, put, Nat.reduceEqDiff, ↓reduceIte, t0, hv]; done) | (simp [upd, put, t0, hv]; done) | rfl | (simp [upd, put, t0, hv]; rfl)), (by first | (simp only [upd, put, Nat.reduceEqDiff, ↓reduceIte, t1]; done) | (simp [upd, put, t1]; done) | rfl | (simp [upd, put, t1]; rfl)), rfl⟩
            · clear t0 t1
              rintro ts m2 ⟨HB, t0, t1, hm2⟩
              subst m2
              repeat' (first | exact tf0 ‹_› | exact tf1 ‹_› | exact False.elim ‹_› | (with_reducible refine Al.intro ?_; intro pb hpb; (try simp only [hupd_none'] at hpb); (repeat rcases hpb with ⟨⟨hpx, hpy⟩, hpb⟩)) | with_reducible refine need ?_ | ((with_reducible first | apply frk0 | apply frk1 | apply frk2 | apply frk3 | apply frk4 | apply frk5 | apply frk6 | apply frk7 | apply frk8 | apply frk9) <;> intro h <;> try (exfalso; omega)) | with_reducible refine quiet_and ?_ ?_ | with_reducible refine awp_drawnA mixed (by decide +kernel) ?_ | ((fail_if_success with_reducible refine stp ?_); simp -implicitDefEqProofs only [go_sem, Nat.reduceEqDiff, Nat.reduceAdd, Nat.reduceLT, Nat.reduceMul, Nat.reduceSub, Nat.reduceLeDiff, ↓reduceIte, reduceCtorEq, ↓String.reduceEq, String.reduceNe, Int.reduceToNat, Int.reduceLT, Int.reduceLE, Int.reduceGT, Int.reduceGE, Int.reduceEq, Int.reduceNe, Int.reduceBEq, Int.reduceBNe, Int.reduceAdd, Int.reduceSub, Int.reduceMul, Int.reduceNeg,  *]))
              refine awp_loopP 4 (fun ts m' => Hid (∀ s ∈ C, s.2.2.1 = 1 → n ≤ s.2.2.2.2.1) ∧ ts 0 = v ∧ m' = m) (fun k ts m' => ∃ i : Nat, Hid (k = L - i ∧ i ≤ L ∧ ∀ s ∈ C.take i, s.2.2.1 = 1 → n ≤ s.2.2.2.2.1) ∧ ts 0 = v ∧ ts 1 = .int .i64 n ∧ ts 9 = .int .i64 (i : Nat) ∧ m' = m) L ⟨0, .mk ⟨rfl, Nat.zero_le _, by simp⟩, by simp [upd, t0, hv], by simp [upd, t1], ttt, rfl⟩ ?_ ?_
              · clear t0 t1
                rintro k ts m2 ⟨i, H, t0, t1, t9, hm2⟩
                subst m2
                by_cases hi : i < L
                · have lt : (i : Int) < (L : Int) := by omega
                  have hiC : i < C.length := by have := H0.out; omega
                  obtain ⟨x, hx⟩ : ∃ x, C.getD i default = x := ⟨_, rfl⟩
                  have g1 := sm_cell C pre post i hiC x hx 2 (by decide)
                  have g3 := sm_cell C pre post i hiC x hx 4 (by decide)
                  rw [show (encSc x).getD 2 .undef = .int .i64 x.2.2.1 from rfl] at g1
                  rw [show (encSc x).getD 4 .undef = .int .i64 x.2.2.2.2.1 from rfl] at g3
                  have g2 := sm_lst C i hiC x hx
                  have l1 := sm_len C pre post i hiC
                  have w1 : IntKind.i64.wrap ((i : Int) + 1) = ((i + 1 : Nat) : Int) := by rw [wrap_i64 (by omega) (by omega)]; omega
                  have hCt := take_one C i hiC
                  have hxm : x ∈ C := by rw [← hx]; exact getD_mem C i hiC
                  have HX := Hid.mk (And.intro hx (And.intro hCt hxm))
                  clear hx hCt hiC hxm
                  by_cases hc1 : x.2.2.1 = 1
                  · by_cases hc2 : x.2.2.2.2.1 < n
                    · repeat' (first | exact tf0 ‹_› | exact tf1 ‹_› | exact False.elim ‹_› | (with_reducible refine Al.intro ?_; intro pb hpb; (try simp only [hupd_none'] at hpb); (repeat rcases hpb with ⟨⟨hpx, hpy⟩, hpb⟩)) | with_reducible refine need ?_ | ((with_reducible first | apply frk0 | apply frk1 | apply frk2 | apply frk3 | apply frk4 | apply frk5 | apply frk6 | apply frk7 | apply frk8 | apply frk9) <;> intro h <;> try (exfalso; omega)) | with_reducible refine quiet_and ?_ ?_ | with_reducible refine awp_drawnA mixed (by decide +kernel) ?_ | ((fail_if_success with_reducible refine stp ?_); simp -implicitDefEqProofs only [go_sem, Nat.reduceEqDiff, Nat.reduceAdd, Nat.reduceLT, Nat.reduceMul, Nat.reduceSub, Nat.reduceLeDiff, ↓reduceIte, reduceCtorEq, ↓String.reduceEq, String.reduceNe, Int.reduceToNat, Int.reduceLT, Int.reduceLE, Int.reduceGT, Int.reduceGE, Int.reduceEq, Int.reduceNe, Int.reduceBEq, Int.reduceBNe, Int.reduceAdd, Int.reduceSub, Int.reduceMul, Int.reduceNeg,  encSc, *]))
                      all_goals exact ⟨_, Sub.refl _, HK.out _ _ (by
                        have he3 : e3F n (C.getD i default) = 9 := by unfold e3F; rw [HX.out.1, if_pos ⟨hc1, hc2⟩]
                        rw [← he3]
                        exact chkE_3 (by have := H0.out; omega) HN.out (fun j hj => HA.out _ (getD_mem C j hj)) (fun j hj => by have h1 := HB.out j hj; have h2 := findF_le (C := C) hj; unfold e2F; rw [if_neg (by omega)]) (by have := H0.out; omega) (fun j hj => by have h1 := H.out.2.2 _ (tk_at hj (by have := H0.out; omega)); unfold e3F; rw [if_neg (fun h5 => by have := h1 h5.1; omega)]) (by rw [he3]; decide))⟩
                    · repeat' (first | exact tf0 ‹_› | exact tf1 ‹_› | exact False.elim ‹_› | (with_reducible refine Al.intro ?_; intro pb hpb; (try simp only [hupd_none'] at hpb); (repeat rcases hpb with ⟨⟨hpx, hpy⟩, hpb⟩)) | with_reducible refine need ?_ | ((with_reducible first | apply frk0 | apply frk1 | apply frk2 | apply frk3 | apply frk4 | apply frk5 | apply frk6 | apply frk7 | apply frk8 | apply frk9) <;> intro h <;> try (exfalso; omega)) | with_reducible refine quiet_and ?_ ?_ | with_reducible refine awp_drawnA mixed (by decide +kernel) ?_ | ((fail_if_success with_reducible refine stp ?_); simp -implicitDefEqProofs only [go_sem, Nat.reduceEqDiff, Nat.reduceAdd, Nat.reduceLT, Nat.reduceMul, Nat.reduceSub, Nat.reduceLeDiff, ↓reduceIte, reduceCtorEq, ↓String.reduceEq, String.reduceNe, Int.reduceToNat, Int.reduceLT, Int.reduceLE, Int.reduceGT, Int.reduceGE, Int.reduceEq, Int.reduceNe, Int.reduceBEq, Int.reduceBNe, Int.reduceAdd, Int.reduceSub, Int.reduceMul, Int.reduceNeg,  encSc, *]))
                      all_goals exact Again.intro ⟨L - (i + 1), by have := H.out; omega, _, Sub.refl _, i + 1, .mk ⟨rfl, by omega, fun s hs => by
                        rw [HX.out.2.1, HX.out.1] at hs
                        rcases List.mem_append.1 hs with hs | hs
                        · exact H.out.2.2 s hs
                        · rw [List.mem_singleton.1 hs]; intro _; omega⟩, (by first | (simp only [upd, put, Nat.reduceEqDiff, ↓reduceIte, t0, hv]; done) | (simp [upd, put, t0, hv]; done) | rfl | (simp [upd, put, t0, hv]; rfl)), (by first | (simp only [upd, put, Nat.reduceEqDiff, ↓reduceIte, t1]; done) | (simp [upd, put, t1]; done) | rfl | (simp [upd, put, t1]; rfl)), ttt, rfl⟩
                  · repeat' (first | exact tf0 ‹_› | exact tf1 ‹_› | exact False.elim ‹_› | (with_reducible refine Al.intro ?_; intro pb hpb; (try simp only [hupd_none'] at hpb); (repeat rcases hpb with ⟨⟨hpx, hpy⟩, hpb⟩)) | with_reducible refine need ?_ | ((with_reducible first | apply frk0 | apply frk1 | apply frk2 | apply frk3 | apply frk4 | apply frk5 | apply frk6 | apply frk7 | apply frk8 | apply frk9) <;> intro h <;> try (exfalso; omega)) | with_reducible refine quiet_and ?_ ?_ | with_reducible refine awp_drawnA mixed (by decide +kernel) ?_ | ((fail_if_success with_reducible refine stp ?_); simp -implicitDefEqProofs only [go_sem, Nat.reduceEqDiff, Nat.reduceAdd, Nat.reduceLT, Nat.reduceMul, Nat.reduceSub, Nat.reduceLeDiff, ↓reduceIte, reduceCtorEq, ↓String.reduceEq, String.reduceNe, Int.reduceToNat, Int.reduceLT, Int.reduceLE, Int.reduceGT, Int.reduceGE, Int.reduceEq, Int.reduceNe, Int.reduceBEq, Int.reduceBNe, Int.reduceAdd, Int.reduceSub, Int.reduceMul, Int.reduceNeg,  encSc, *]))
                    all_goals exact Again.intro ⟨L - (i + 1), by have := H.out; omega, _, Sub.refl _, i + 1, .mk ⟨rfl, by omega, fun s hs => by
                      rw [HX.out.2.1, HX.out.1] at hs
                      rcases List.mem_append.1 hs with hs | hs
                      · exact H.out.2.2 s hs
                      · rw [List.mem_singleton.1 hs]; intro h; exact absurd h hc1⟩, (by first | (simp only [upd, put, Nat.reduceEqDiff, ↓reduceIte, t0, hv]; done) | (simp [upd, put, t0, hv]; done) | rfl | (simp [upd, put, t0, hv]; rfl)), (by first | (simp only [upd, put, Nat.reduceEqDiff, ↓reduceIte, t1]; done) | (simp [upd, put, t1]; done) | rfl | (simp [upd, put, t1]; rfl)), ttt, rfl⟩
                · have lt : ¬ (i : Int) < (L : Int) := by omega
                  repeat' (first | exact tf0 ‹_› | exact tf1 ‹_› | exact False.elim ‹_› | (with_reducible refine Al.intro ?_; intro pb hpb; (try simp only [hupd_none'] at hpb); (repeat rcases hpb with ⟨⟨hpx, hpy⟩, hpb⟩)) | with_reducible refine need ?_ | ((with_reducible first | apply frk0 | apply frk1 | apply frk2 | apply frk3 | apply frk4 | apply frk5 | apply frk6 | apply frk7 | apply frk8 | apply frk9) <;> intro h <;> try (exfalso; omega)) | with_reducible refine quiet_and ?_ ?_ | with_reducible refine awp_drawnA mixed (by decide +kernel) ?_ | ((fail_if_success with_reducible refine stp ?_); simp -implicitDefEqProofs only [go_sem, Nat.reduceEqDiff, Nat.reduceAdd, Nat.reduceLT, Nat.reduceMul, Nat.reduceSub, Nat.reduceLeDiff, ↓reduceIte, reduceCtorEq, ↓String.reduceEq, String.reduceNe, Int.reduceToNat, Int.reduceLT, Int.reduceLE, Int.reduceGT, Int.reduceGE, Int.reduceEq, Int.reduceNe, Int.reduceBEq, Int.reduceBNe, Int.reduceAdd, Int.reduceSub, Int.reduceMul, Int.reduceNeg,  *]))
                  exact Again.intro ⟨.mk (by have h := H.out.2.2; rwa [List.take_of_length_le (by have := H0.out; omega)] at h), (by first | (simp only [upd, put, Nat.reduceEqDiff, ↓reduceIte, t0, hv]; done) | (simp [upd, put, t0, hv]; done) | rfl | (simp [upd, put, t0, hv]; rfl)), rfl⟩
              · clear t0 t1
                rintro ts m2 ⟨HD, t0, hm2⟩
                subst m2
                repeat' (first | exact tf0 ‹_› | exact tf1 ‹_› | exact False.elim ‹_› | (with_reducible refine Al.intro ?_; intro pb hpb; (try simp only [hupd_none'] at hpb); (repeat rcases hpb with ⟨⟨hpx, hpy⟩, hpb⟩)) | with_reducible refine need ?_ | ((with_reducible first | apply frk0 | apply frk1 | apply frk2 | apply frk3 | apply frk4 | apply frk5 | apply frk6 | apply frk7 | apply frk8 | apply frk9) <;> intro h <;> try (exfalso; omega)) | with_reducible refine quiet_and ?_ ?_ | with_reducible refine awp_drawnA mixed (by decide +kernel) ?_ | ((fail_if_success with_reducible refine stp ?_); simp -implicitDefEqProofs only [go_sem, Nat.reduceEqDiff, Nat.reduceAdd, Nat.reduceLT, Nat.reduceMul, Nat.reduceSub, Nat.reduceLeDiff, ↓reduceIte, reduceCtorEq, ↓String.reduceEq, String.reduceNe, Int.reduceToNat, Int.reduceLT, Int.reduceLE, Int.reduceGT, Int.reduceGE, Int.reduceEq, Int.reduceNe, Int.reduceBEq, Int.reduceBNe, Int.reduceAdd, Int.reduceSub, Int.reduceMul, Int.reduceNeg,  *]))
                exact ⟨_, Sub.refl _, HK.out _ _ (chkE_0 (by have := H0.out; omega) HN.out (fun j hj => HA.out _ (getD_mem C j hj)) (fun j hj => by have h1 := HB.out j hj; have h2 := findF_le (C := C) hj; unfold e2F; rw [if_neg (by omega)]) (fun j hj => by have h1 := HD.out _ (getD_mem C j hj); unfold e3F; rw [if_neg (fun h5 => by have := h1 h5.1; omega)]))⟩
        · have n1 : ¬ n < 1 := by omega
          have n2 : 1073741824 < n := by omega
          have HN := Hid.mk hn2
          clear hn1 hn2
          refine callWP_body Tryz.func18 rfl (N := 74) rfl (rs := [.tmp 4, .tmp 5]) rfl en_18 (of_decide_eq_true rfl) ?_
          repeat' (first | exact tf0 ‹_› | exact tf1 ‹_› | exact False.elim ‹_› | (with_reducible refine Al.intro ?_; intro pb hpb; (try simp only [hupd_none'] at hpb); (repeat rcases hpb with ⟨⟨hpx, hpy⟩, hpb⟩)) | with_reducible refine need ?_ | ((with_reducible first | apply frk0 | apply frk1 | apply frk2 | apply frk3 | apply frk4 | apply frk5 | apply frk6 | apply frk7 | apply frk8 | apply frk9) <;> intro h <;> try (exfalso; omega)) | with_reducible refine quiet_and ?_ ?_ | with_reducible refine awp_drawnA mixed (by decide +kernel) ?_ | ((fail_if_success with_reducible refine stp ?_); simp -implicitDefEqProofs only [go_sem, Nat.reduceEqDiff, Nat.reduceAdd, Nat.reduceLT, Nat.reduceMul, Nat.reduceSub, Nat.reduceLeDiff, ↓reduceIte, reduceCtorEq, ↓String.reduceEq, String.reduceNe, Int.reduceToNat, Int.reduceLT, Int.reduceLE, Int.reduceGT, Int.reduceGE, Int.reduceEq, Int.reduceNe, Int.reduceBEq, Int.reduceBNe, Int.reduceAdd, Int.reduceSub, Int.reduceMul, Int.reduceNeg,  *]))
          exact ⟨_, Sub.refl _, HK.out _ _ (chkE_n (by have := H0.out; omega) (fun h => HN.out h.2))⟩
      · have n1 : n < 1 := by omega
        have HN := Hid.mk hn1
        clear hn1
        refine callWP_body Tryz.func18 rfl (N := 74) rfl (rs := [.tmp 4, .tmp 5]) rfl en_18 (of_decide_eq_true rfl) ?_
        repeat' (first | exact tf0 ‹_› | exact tf1 ‹_› | exact False.elim ‹_› | (with_reducible refine Al.intro ?_; intro pb hpb; (try simp only [hupd_none'] at hpb); (repeat rcases hpb with ⟨⟨hpx, hpy⟩, hpb⟩)) | with_reducible refine need ?_ | ((with_reducible first | apply frk0 | apply frk1 | apply frk2 | apply frk3 | apply frk4 | apply frk5 | apply frk6 | apply frk7 | apply frk8 | apply frk9) <;> intro h <;> try (exfalso; omega)) | with_reducible refine quiet_and ?_ ?_ | with_reducible refine awp_drawnA mixed (by decide +kernel) ?_ | ((fail_if_success with_reducible refine stp ?_); simp -implicitDefEqProofs only [go_sem, Nat.reduceEqDiff, Nat.reduceAdd, Nat.reduceLT, Nat.reduceMul, Nat.reduceSub, Nat.reduceLeDiff, ↓reduceIte, reduceCtorEq, ↓String.reduceEq, String.reduceNe, Int.reduceToNat, Int.reduceLT, Int.reduceLE, Int.reduceGT, Int.reduceGE, Int.reduceEq, Int.reduceNe, Int.reduceBEq, Int.reduceBNe, Int.reduceAdd, Int.reduceSub, Int.reduceMul, Int.reduceNeg,  *]))
        exact ⟨_, Sub.refl _, HK.out _ _ (chkE_n (by have := H0.out; omega) (fun h => HN.out h.1))⟩
    · have n0 : (64 : Int) < (L : Int) := by omega
      have H64 := Hid.mk h64
      clear h64
      refine callWP_body Tryz.func18 rfl (N := 74) rfl (rs := [.tmp 4, .tmp 5]) rfl en_18 (of_decide_eq_true rfl) ?_
      repeat' (first | exact tf0 ‹_› | exact tf1 ‹_› | exact False.elim ‹_› | (with_reducible refine Al.intro ?_; intro pb hpb; (try simp only [hupd_none'] at hpb); (repeat rcases hpb with ⟨⟨hpx, hpy⟩, hpb⟩)) | with_reducible refine need ?_ | ((with_reducible first | apply frk0 | apply frk1 | apply frk2 | apply frk3 | apply frk4 | apply frk5 | apply frk6 | apply frk7 | apply frk8 | apply frk9) <;> intro h <;> try (exfalso; omega)) | with_reducible refine quiet_and ?_ ?_ | with_reducible refine awp_drawnA mixed (by decide +kernel) ?_ | ((fail_if_success with_reducible refine stp ?_); simp -implicitDefEqProofs only [go_sem, Nat.reduceEqDiff, Nat.reduceAdd, Nat.reduceLT, Nat.reduceMul, Nat.reduceSub, Nat.reduceLeDiff, ↓reduceIte, reduceCtorEq, ↓String.reduceEq, String.reduceNe, Int.reduceToNat, Int.reduceLT, Int.reduceLE, Int.reduceGT, Int.reduceGE, Int.reduceEq, Int.reduceNe, Int.reduceBEq, Int.reduceBNe, Int.reduceAdd, Int.reduceSub, Int.reduceMul, Int.reduceNeg,  *]))
      all_goals exact ⟨_, Sub.refl _, HK.out _ _ (chkE_len (by have := H0.out; have := H64.out; omega))⟩)
theorem check25_spec (G : Nat → AVal) (C : List Stm) (hl : C.length < 9223372036854775808) (n : Int) (v : AVal) (m : Heap) (hs : RdS C v m) (K : AVal → Heap → Prop)
    (hK : ∀ k e : Int, (e = 0 ↔ rightC C n) → K (.tuple [.int .i64 k, .int .i64 e]) m) : CallWP Tryz.prog G 18 [v, .int .i64 n] m K :=
  check25E_spec G C hl n v m hs K fun k e he => hK k e (by rw [he]; exact chkE_iff C n)
end Go.Proofs.YtdckcophbmnjjaaGreatDoor
