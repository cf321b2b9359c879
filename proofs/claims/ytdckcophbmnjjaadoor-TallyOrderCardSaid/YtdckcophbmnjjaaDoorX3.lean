/- Streams: which can be, and what one costs. Streams: where one is, and whether all can be. Streams: whether all can be. -/
import Derived.Test.YtdckcophbmnjjaaDoorZ0
set_option linter.all false
namespace Go.Proofs.YtdckcophbmnjjaaDoor
open Go Go.Proofs.YtdckcophbmnjjaaDoor.Ab
open Go.Proofs (Tryd.prog)
set_option maxRecDepth 100000
/-- A stream: number, node, class, period, deadline, slot, bytes. -/
abbrev Stm := Int × Int × Int × Int × Int × Int × Int
abbrev encSc (s : Stm) : List AVal := [.int .i64 s.1, .int .i64 s.2.1, .int .i64 s.2.2.1, .int .i64 s.2.2.2.1, .int .i64 s.2.2.2.2.1, .int .i64 s.2.2.2.2.2.1, .int .i64 s.2.2.2.2.2.2]
theorem encSc_len (s : Stm) : (encSc s).length = 7 := rfl
def encS (s : Stm) : AVal := .agg (encSc s)
/-- May its label be? -/
def labS (s : Stm) : Bool := decide (1 ≤ s.2.2.1 ∧ s.2.2.1 ≤ 3) && decide (0 ≤ s.2.2.2.2.2.1 ∧ s.2.2.2.2.2.1 ≤ 255) && decide (0 ≤ s.1 ∧ s.1 ≤ 2047) && decide (0 ≤ s.2.1 ∧ s.2.1 < 32)
/-- What is wrong with a stream. -/
def rightS (s : Stm) : Int := if ¬ (1 ≤ s.2.2.1 ∧ s.2.2.1 ≤ 3) then 10 else if labS s = false then 1 else if ¬ ((1 ≤ s.2.2.2.1 ∧ s.2.2.2.1 ≤ 1073741824) ∧ 1 ≤ s.2.2.2.2.1 ∧ s.2.2.2.2.1 ≤ s.2.2.2.1) then 1 else if ¬ (0 ≤ s.2.2.2.2.2.2 ∧ s.2.2.2.2.2.2 ≤ 8) then 2 else 0
/-- What a frame of a stream takes. -/
def costS (s : Stm) : Int := if rightS s = 0 then (54 + 8 * s.2.2.2.2.2.2) + (54 + 8 * s.2.2.2.2.2.2 - 1).tdiv 4 + 13 else 0
theorem rightS_zero {s : Stm} : rightS s = 0 ↔ (1 ≤ s.2.2.1 ∧ s.2.2.1 ≤ 3) ∧ (0 ≤ s.2.2.2.2.2.1 ∧ s.2.2.2.2.2.1 ≤ 255) ∧ (0 ≤ s.1 ∧ s.1 ≤ 2047) ∧ (0 ≤ s.2.1 ∧ s.2.1 < 32) ∧ (1 ≤ s.2.2.2.1 ∧ s.2.2.2.1 ≤ 1073741824) ∧ (1 ≤ s.2.2.2.2.1 ∧ s.2.2.2.2.1 ≤ s.2.2.2.1) ∧ (0 ≤ s.2.2.2.2.2.2 ∧ s.2.2.2.2.2.2 ≤ 8) := by
  have hl : labS s = false ↔ ¬ ((1 ≤ s.2.2.1 ∧ s.2.2.1 ≤ 3) ∧ (0 ≤ s.2.2.2.2.2.1 ∧ s.2.2.2.2.2.1 ≤ 255) ∧ (0 ≤ s.1 ∧ s.1 ≤ 2047) ∧ (0 ≤ s.2.1 ∧ s.2.1 < 32)) := by
    unfold labS
    rw [← Bool.not_eq_true]
    simp only [Bool.and_eq_true, decide_eq_true_eq]
    omega
  unfold rightS
  split
  · constructor
    · intro h; omega
    · intro h; omega
  · split
    · rename_i h
      rw [hl] at h
      constructor
      · intro h; omega
      · intro h2; exact absurd ⟨h2.1, h2.2.1, h2.2.2.1, h2.2.2.2.1⟩ h
    · rename_i h
      rw [hl, Classical.not_not] at h
      split
      · constructor
        · intro h; omega
        · intro h; omega
      · split
        · constructor
          · intro h; omega
          · intro h; omega
        · constructor
          · intro _; omega
          · intro _; rfl
theorem costS_in (s : Stm) : 0 ≤ costS s ∧ costS s ≤ 160 := by
  unfold costS
  split
  · rename_i h
    rw [rightS_zero] at h
    rw [Int.tdiv_eq_ediv_of_nonneg (by omega)]
    omega
  · omega
theorem costS_pos {s : Stm} (h : rightS s = 0) : 1 ≤ costS s := by
  unfold costS
  rw [if_pos h]
  rw [rightS_zero] at h
  rw [Int.tdiv_eq_ediv_of_nonneg (by omega)]
  omega
def encLb (s : Stm) : AVal := .agg [.int .i64 s.2.2.1, .int .i64 s.2.2.2.2.2.1, .int .i64 s.1, .int .i64 s.2.1]
theorem label_spec (G : Nat → AVal) (s : Stm) : Ans G 54 [encS s] (encLb s) := by
  intro m
  refine callWP_body Tryd.func54 rfl (N := 12) rfl (rs := [.cell 2 98]) rfl en_54 (of_decide_eq_true rfl) ?_
  repeat' (first | exact tf0 ‹_› | exact tf1 ‹_› | exact False.elim ‹_› | (with_reducible refine Al.intro ?_; intro pb hpb; (try simp only [hupd_none'] at hpb); (repeat rcases hpb with ⟨⟨hpx, hpy⟩, hpb⟩)) | with_reducible refine need ?_ | ((with_reducible first | refine frk0 ?_ ?_ | refine frk1 ?_ ?_ | refine frk2 ?_ ?_ | refine frk3 ?_ ?_ | refine frk4 ?_ ?_ | refine frk5 ?_ ?_ | refine frk6 ?_ ?_ | refine frk7 ?_ ?_ | refine frk8 ?_ ?_ | refine frk9 ?_ ?_) <;> intro h <;> try (exfalso; omega)) | with_reducible refine quiet_and ?_ ?_ | with_reducible refine awp_drawnA mixed (by decide +kernel) ?_ | ((fail_if_success with_reducible refine stp ?_); simp -implicitDefEqProofs only [go_sem, Nat.reduceEqDiff, Nat.reduceAdd, Nat.reduceLT, Nat.reduceMul, Nat.reduceSub, Nat.reduceLeDiff, ↓reduceIte, reduceCtorEq, ↓String.reduceEq, String.reduceNe, Int.reduceToNat, Int.reduceLT, Int.reduceLE, Int.reduceGT, Int.reduceGE, Int.reduceEq, Int.reduceNe, Int.reduceBEq, Int.reduceBNe, Int.reduceAdd, Int.reduceSub, Int.reduceMul, Int.reduceNeg,  encS, encSc, *]))
  refine ⟨m, (by (repeat refine Sub.fresh ?_ (by assumption)); exact Sub.refl m), ?_, rfl⟩
  rfl
theorem lright_spec (G : Nat → AVal) (s : Stm) : Ans G 53 [encLb s] (.bool (labS s)) := by
  intro m
  refine callWP_body Tryd.func53 rfl (N := 41) rfl (rs := [.tmp 2]) rfl en_53 (of_decide_eq_true rfl) ?_
  repeat' (first | exact tf0 ‹_› | exact tf1 ‹_› | exact False.elim ‹_› | (with_reducible refine Al.intro ?_; intro pb hpb; (try simp only [hupd_none'] at hpb); (repeat rcases hpb with ⟨⟨hpx, hpy⟩, hpb⟩)) | with_reducible refine need ?_ | ((with_reducible first | refine frk0 ?_ ?_ | refine frk1 ?_ ?_ | refine frk2 ?_ ?_ | refine frk3 ?_ ?_ | refine frk4 ?_ ?_ | refine frk5 ?_ ?_ | refine frk6 ?_ ?_ | refine frk7 ?_ ?_ | refine frk8 ?_ ?_ | refine frk9 ?_ ?_) <;> intro h <;> try (exfalso; omega)) | with_reducible refine quiet_and ?_ ?_ | with_reducible refine awp_drawnA mixed (by decide +kernel) ?_ | ((fail_if_success with_reducible refine stp ?_); simp -implicitDefEqProofs only [go_sem, Nat.reduceEqDiff, Nat.reduceAdd, Nat.reduceLT, Nat.reduceMul, Nat.reduceSub, Nat.reduceLeDiff, ↓reduceIte, reduceCtorEq, ↓String.reduceEq, String.reduceNe, Int.reduceToNat, Int.reduceLT, Int.reduceLE, Int.reduceGT, Int.reduceGE, Int.reduceEq, Int.reduceNe, Int.reduceBEq, Int.reduceBNe, Int.reduceAdd, Int.reduceSub, Int.reduceMul, Int.reduceNeg,  encLb, *]))
  all_goals refine ⟨m, (by (repeat refine Sub.fresh ?_ (by assumption)); exact Sub.refl m), ?_, rfl⟩
  all_goals (
    show AVal.bool _ = AVal.bool _
    congr 1
    rw [Bool.eq_iff_iff]
    unfold labS
    simp only [Bool.and_eq_true, decide_eq_true_eq, Bool.false_eq_true]
    refine ⟨fun h => ?_, fun h => ?_⟩ <;> first | exact h.elim | omega)
theorem right_eq {s : Stm} {e : Int} (h : rightS s = e) : rightS s = e := h
set_option maxHeartbeats 1000000 in
theorem sright_spec (G : Nat → AVal) (s : Stm) : Ans G 40 [encS s] (.int .i64 (rightS s)) := by
  intro m
  obtain ⟨b, hb⟩ : ∃ b, b = labS s := ⟨_, rfl⟩
  have HB := Hid.mk hb
  clear hb
  refine callWP_body Tryd.func40 rfl (N := 43) rfl (rs := [.tmp 2]) rfl en_40 (of_decide_eq_true rfl) ?_
  repeat' (first | exact tf0 ‹_› | exact tf1 ‹_› | exact False.elim ‹_› | (with_reducible refine Al.intro ?_; intro pb hpb; (try simp only [hupd_none'] at hpb); (repeat rcases hpb with ⟨⟨hpx, hpy⟩, hpb⟩)) | with_reducible refine need ?_ | ((with_reducible first | refine frk0 ?_ ?_ | refine frk1 ?_ ?_ | refine frk2 ?_ ?_ | refine frk3 ?_ ?_ | refine frk4 ?_ ?_ | refine frk5 ?_ ?_ | refine frk6 ?_ ?_ | refine frk7 ?_ ?_ | refine frk8 ?_ ?_ | refine frk9 ?_ ?_) <;> intro h <;> try (exfalso; omega)) | with_reducible refine quiet_and ?_ ?_ | with_reducible refine awp_drawnA mixed (by decide +kernel) ?_ | ((fail_if_success with_reducible refine stp ?_); simp -implicitDefEqProofs only [go_sem, Nat.reduceEqDiff, Nat.reduceAdd, Nat.reduceLT, Nat.reduceMul, Nat.reduceSub, Nat.reduceLeDiff, ↓reduceIte, reduceCtorEq, ↓String.reduceEq, String.reduceNe, Int.reduceToNat, Int.reduceLT, Int.reduceLE, Int.reduceGT, Int.reduceGE, Int.reduceEq, Int.reduceNe, Int.reduceBEq, Int.reduceBNe, Int.reduceAdd, Int.reduceSub, Int.reduceMul, Int.reduceNeg,  encS, encSc, *]))
  · refine ⟨m, (by (repeat refine Sub.fresh ?_ (by assumption)); exact Sub.refl m), ?_, rfl⟩
    unfold rightS; rw [if_pos (by omega)]
  · refine ⟨m, (by (repeat refine Sub.fresh ?_ (by assumption)); exact Sub.refl m), ?_, rfl⟩
    unfold rightS; rw [if_pos (by omega)]
  refine CallWP.to (label_spec G s _) ?_
  repeat' (first | exact tf0 ‹_› | exact tf1 ‹_› | exact False.elim ‹_› | (with_reducible refine Al.intro ?_; intro pb hpb; (try simp only [hupd_none'] at hpb); (repeat rcases hpb with ⟨⟨hpx, hpy⟩, hpb⟩)) | with_reducible refine need ?_ | ((with_reducible first | refine frk0 ?_ ?_ | refine frk1 ?_ ?_ | refine frk2 ?_ ?_ | refine frk3 ?_ ?_ | refine frk4 ?_ ?_ | refine frk5 ?_ ?_ | refine frk6 ?_ ?_ | refine frk7 ?_ ?_ | refine frk8 ?_ ?_ | refine frk9 ?_ ?_) <;> intro h <;> try (exfalso; omega)) | with_reducible refine quiet_and ?_ ?_ | with_reducible refine awp_drawnA mixed (by decide +kernel) ?_ | ((fail_if_success with_reducible refine stp ?_); simp -implicitDefEqProofs only [go_sem, Nat.reduceEqDiff, Nat.reduceAdd, Nat.reduceLT, Nat.reduceMul, Nat.reduceSub, Nat.reduceLeDiff, ↓reduceIte, reduceCtorEq, ↓String.reduceEq, String.reduceNe, Int.reduceToNat, Int.reduceLT, Int.reduceLE, Int.reduceGT, Int.reduceGE, Int.reduceEq, Int.reduceNe, Int.reduceBEq, Int.reduceBNe, Int.reduceAdd, Int.reduceSub, Int.reduceMul, Int.reduceNeg,  *]))
  refine CallWP.to (lright_spec G s _) ?_
  rw [← HB.out]
  cases b with
  | false =>
    repeat' (first | exact tf0 ‹_› | exact tf1 ‹_› | exact False.elim ‹_› | (with_reducible refine Al.intro ?_; intro pb hpb; (try simp only [hupd_none'] at hpb); (repeat rcases hpb with ⟨⟨hpx, hpy⟩, hpb⟩)) | with_reducible refine need ?_ | ((with_reducible first | refine frk0 ?_ ?_ | refine frk1 ?_ ?_ | refine frk2 ?_ ?_ | refine frk3 ?_ ?_ | refine frk4 ?_ ?_ | refine frk5 ?_ ?_ | refine frk6 ?_ ?_ | refine frk7 ?_ ?_ | refine frk8 ?_ ?_ | refine frk9 ?_ ?_) <;> intro h <;> try (exfalso; omega)) | with_reducible refine quiet_and ?_ ?_ | with_reducible refine awp_drawnA mixed (by decide +kernel) ?_ | ((fail_if_success with_reducible refine stp ?_); simp -implicitDefEqProofs only [go_sem, Nat.reduceEqDiff, Nat.reduceAdd, Nat.reduceLT, Nat.reduceMul, Nat.reduceSub, Nat.reduceLeDiff, ↓reduceIte, reduceCtorEq, ↓String.reduceEq, String.reduceNe, Int.reduceToNat, Int.reduceLT, Int.reduceLE, Int.reduceGT, Int.reduceGE, Int.reduceEq, Int.reduceNe, Int.reduceBEq, Int.reduceBNe, Int.reduceAdd, Int.reduceSub, Int.reduceMul, Int.reduceNeg,  *]))
    refine ⟨m, (by (repeat refine Sub.fresh ?_ (by assumption)); exact Sub.refl m), ?_, rfl⟩
    unfold rightS; rw [if_neg (by omega), if_pos HB.out.symm]
  | true =>
    have HB2 : labS s ≠ false := by rw [← HB.out]; decide
    repeat' (first | exact tf0 ‹_› | exact tf1 ‹_› | exact False.elim ‹_› | (with_reducible refine Al.intro ?_; intro pb hpb; (try simp only [hupd_none'] at hpb); (repeat rcases hpb with ⟨⟨hpx, hpy⟩, hpb⟩)) | with_reducible refine need ?_ | ((with_reducible first | refine frk0 ?_ ?_ | refine frk1 ?_ ?_ | refine frk2 ?_ ?_ | refine frk3 ?_ ?_ | refine frk4 ?_ ?_ | refine frk5 ?_ ?_ | refine frk6 ?_ ?_ | refine frk7 ?_ ?_ | refine frk8 ?_ ?_ | refine frk9 ?_ ?_) <;> intro h <;> try (exfalso; omega)) | with_reducible refine quiet_and ?_ ?_ | with_reducible refine awp_drawnA mixed (by decide +kernel) ?_ | ((fail_if_success with_reducible refine stp ?_); simp -implicitDefEqProofs only [go_sem, Nat.reduceEqDiff, Nat.reduceAdd, Nat.reduceLT, Nat.reduceMul, Nat.reduceSub, Nat.reduceLeDiff, ↓reduceIte, reduceCtorEq, ↓String.reduceEq, String.reduceNe, Int.reduceToNat, Int.reduceLT, Int.reduceLE, Int.reduceGT, Int.reduceGE, Int.reduceEq, Int.reduceNe, Int.reduceBEq, Int.reduceBNe, Int.reduceAdd, Int.reduceSub, Int.reduceMul, Int.reduceNeg,  encSc, *]))
    all_goals refine ⟨m, (by (repeat refine Sub.fresh ?_ (by assumption)); exact Sub.refl m), ?_, rfl⟩
    all_goals (
      unfold rightS
      rw [if_neg (by omega), if_neg HB2]
      first | (rw [if_pos (by omega)]; done) | (rw [if_neg (by omega), if_pos (by omega)]; done) | (rw [if_neg (by omega), if_neg (by omega)]; done))
theorem most04_spec (G : Nat → AVal) (n : Int) (h1 : 1 ≤ n) (h2 : n ≤ 1000) : Ans G 70 [.int .i64 n] (.int .i64 (n + (n - 1).tdiv 4)) := by
  intro m
  have e : (n - 1).tdiv 4 = (n - 1) / 4 := Int.tdiv_eq_ediv_of_nonneg (by omega)
  have w1 : IntKind.i64.wrap (n - 1) = n - 1 := wrap_i64 (by omega) (by omega)
  have w2 : IntKind.i64.wrap ((n - 1).tdiv 4) = (n - 1).tdiv 4 := wrap_i64 (by omega) (by omega)
  have w3 : IntKind.i64.wrap (n + (n - 1).tdiv 4) = n + (n - 1).tdiv 4 := wrap_i64 (by omega) (by omega)
  have n1 : ¬ n < 1 := by omega
  have n2 : ¬ 1073741824 < n := by omega
  clear e h1 h2
  refine callWP_body Tryd.func70 rfl (N := 14) rfl (rs := [.tmp 2]) rfl en_70 (of_decide_eq_true rfl) ?_
  repeat' (first | exact tf0 ‹_› | exact tf1 ‹_› | exact False.elim ‹_› | (with_reducible refine Al.intro ?_; intro pb hpb; (try simp only [hupd_none'] at hpb); (repeat rcases hpb with ⟨⟨hpx, hpy⟩, hpb⟩)) | with_reducible refine need ?_ | ((with_reducible first | refine frk0 ?_ ?_ | refine frk1 ?_ ?_ | refine frk2 ?_ ?_ | refine frk3 ?_ ?_ | refine frk4 ?_ ?_ | refine frk5 ?_ ?_ | refine frk6 ?_ ?_ | refine frk7 ?_ ?_ | refine frk8 ?_ ?_ | refine frk9 ?_ ?_) <;> intro h <;> try (exfalso; omega)) | with_reducible refine quiet_and ?_ ?_ | with_reducible refine awp_drawnA mixed (by decide +kernel) ?_ | ((fail_if_success with_reducible refine stp ?_); simp -implicitDefEqProofs only [go_sem, Nat.reduceEqDiff, Nat.reduceAdd, Nat.reduceLT, Nat.reduceMul, Nat.reduceSub, Nat.reduceLeDiff, ↓reduceIte, reduceCtorEq, ↓String.reduceEq, String.reduceNe, Int.reduceToNat, Int.reduceLT, Int.reduceLE, Int.reduceGT, Int.reduceGE, Int.reduceEq, Int.reduceNe, Int.reduceBEq, Int.reduceBNe, Int.reduceAdd, Int.reduceSub, Int.reduceMul, Int.reduceNeg,  *]))
  refine ⟨m, (by (repeat refine Sub.fresh ?_ (by assumption)); exact Sub.refl m), ?_, rfl⟩
  rfl
theorem most07_spec (G : Nat → AVal) (b : Int) (h1 : 0 ≤ b) (h2 : b ≤ 8) : Ans G 55 [.bool true, .int .i64 b] (.int .i64 ((54 + 8 * b) + (54 + 8 * b - 1).tdiv 4 + 10)) := by
  intro m
  have e : (54 + 8 * b - 1).tdiv 4 = (54 + 8 * b - 1) / 4 := Int.tdiv_eq_ediv_of_nonneg (by omega)
  obtain ⟨k, hk⟩ : ∃ k, k = 54 + 8 * b := ⟨_, rfl⟩
  have w1 : IntKind.i64.wrap (8 * b) = 8 * b := wrap_i64 (by omega) (by omega)
  have w2 : IntKind.i64.wrap (34 + 8 * b) = 34 + 8 * b := wrap_i64 (by omega) (by omega)
  have w3 : IntKind.i64.wrap (54 + 8 * b) = k := by rw [wrap_i64 (by omega) (by omega)]; omega
  have w4 : IntKind.i64.wrap (k + (k - 1).tdiv 4 + 10) = k + (k - 1).tdiv 4 + 10 := wrap_i64 (by rw [hk]; omega) (by rw [hk]; omega)
  have n1 : ¬ b < 0 := by omega
  have n2 : ¬ 8 < b := by omega
  have HM := Hid.mk (most04_spec G k (by omega) (by omega))
  rw [← hk]
  clear e h1 h2 hk
  refine callWP_body Tryd.func55 rfl (N := 22) rfl (rs := [.tmp 4]) rfl en_55 (of_decide_eq_true rfl) ?_
  repeat' (first | exact tf0 ‹_› | exact tf1 ‹_› | exact False.elim ‹_› | (with_reducible refine Al.intro ?_; intro pb hpb; (try simp only [hupd_none'] at hpb); (repeat rcases hpb with ⟨⟨hpx, hpy⟩, hpb⟩)) | with_reducible refine need ?_ | ((with_reducible first | refine frk0 ?_ ?_ | refine frk1 ?_ ?_ | refine frk2 ?_ ?_ | refine frk3 ?_ ?_ | refine frk4 ?_ ?_ | refine frk5 ?_ ?_ | refine frk6 ?_ ?_ | refine frk7 ?_ ?_ | refine frk8 ?_ ?_ | refine frk9 ?_ ?_) <;> intro h <;> try (exfalso; omega)) | with_reducible refine quiet_and ?_ ?_ | with_reducible refine awp_drawnA mixed (by decide +kernel) ?_ | ((fail_if_success with_reducible refine stp ?_); simp -implicitDefEqProofs only [go_sem, Nat.reduceEqDiff, Nat.reduceAdd, Nat.reduceLT, Nat.reduceMul, Nat.reduceSub, Nat.reduceLeDiff, ↓reduceIte, reduceCtorEq, ↓String.reduceEq, String.reduceNe, Int.reduceToNat, Int.reduceLT, Int.reduceLE, Int.reduceGT, Int.reduceGE, Int.reduceEq, Int.reduceNe, Int.reduceBEq, Int.reduceBNe, Int.reduceAdd, Int.reduceSub, Int.reduceMul, Int.reduceNeg,  *]))
  refine CallWP.to (HM.out _) ?_
  repeat' (first | exact tf0 ‹_› | exact tf1 ‹_› | exact False.elim ‹_› | (with_reducible refine Al.intro ?_; intro pb hpb; (try simp only [hupd_none'] at hpb); (repeat rcases hpb with ⟨⟨hpx, hpy⟩, hpb⟩)) | with_reducible refine need ?_ | ((with_reducible first | refine frk0 ?_ ?_ | refine frk1 ?_ ?_ | refine frk2 ?_ ?_ | refine frk3 ?_ ?_ | refine frk4 ?_ ?_ | refine frk5 ?_ ?_ | refine frk6 ?_ ?_ | refine frk7 ?_ ?_ | refine frk8 ?_ ?_ | refine frk9 ?_ ?_) <;> intro h <;> try (exfalso; omega)) | with_reducible refine quiet_and ?_ ?_ | with_reducible refine awp_drawnA mixed (by decide +kernel) ?_ | ((fail_if_success with_reducible refine stp ?_); simp -implicitDefEqProofs only [go_sem, Nat.reduceEqDiff, Nat.reduceAdd, Nat.reduceLT, Nat.reduceMul, Nat.reduceSub, Nat.reduceLeDiff, ↓reduceIte, reduceCtorEq, ↓String.reduceEq, String.reduceNe, Int.reduceToNat, Int.reduceLT, Int.reduceLE, Int.reduceGT, Int.reduceGE, Int.reduceEq, Int.reduceNe, Int.reduceBEq, Int.reduceBNe, Int.reduceAdd, Int.reduceSub, Int.reduceMul, Int.reduceNeg,  *]))
  refine ⟨m, (by (repeat refine Sub.fresh ?_ (by assumption)); exact Sub.refl m), ?_, rfl⟩
  rfl
theorem cost_spec (G : Nat → AVal) (s : Stm) : Ans G 41 [encS s] (.int .i64 (costS s)) := by
  intro m
  obtain ⟨e, he⟩ : ∃ e, e = rightS s := ⟨_, rfl⟩
  have HE := Hid.mk he
  by_cases h0 : e = 0
  · have hr := rightS_zero.1 (he.symm.trans h0)
    have e1 : (54 + 8 * s.2.2.2.2.2.2 - 1).tdiv 4 = (54 + 8 * s.2.2.2.2.2.2 - 1) / 4 := Int.tdiv_eq_ediv_of_nonneg (by omega)
    obtain ⟨k, hk⟩ : ∃ k, k = (54 + 8 * s.2.2.2.2.2.2) + (54 + 8 * s.2.2.2.2.2.2 - 1).tdiv 4 + 10 := ⟨_, rfl⟩
    have hc : Hid (costS s = k + 3) := .mk (by unfold costS; rw [if_pos (he.symm.trans h0)]; omega)
    have w1 : IntKind.i64.wrap (k + 3) = k + 3 := wrap_i64 (by omega) (by omega)
    have HM := Hid.mk (most07_spec G s.2.2.2.2.2.2 hr.2.2.2.2.2.2.1 hr.2.2.2.2.2.2.2)
    rw [← hk] at HM
    clear he hr e1 hk
    subst h0
    refine callWP_body Tryd.func41 rfl (N := 10) rfl (rs := [.tmp 2]) rfl en_41 (of_decide_eq_true rfl) ?_
    repeat' (first | exact tf0 ‹_› | exact tf1 ‹_› | exact False.elim ‹_› | (with_reducible refine Al.intro ?_; intro pb hpb; (try simp only [hupd_none'] at hpb); (repeat rcases hpb with ⟨⟨hpx, hpy⟩, hpb⟩)) | with_reducible refine need ?_ | ((with_reducible first | refine frk0 ?_ ?_ | refine frk1 ?_ ?_ | refine frk2 ?_ ?_ | refine frk3 ?_ ?_ | refine frk4 ?_ ?_ | refine frk5 ?_ ?_ | refine frk6 ?_ ?_ | refine frk7 ?_ ?_ | refine frk8 ?_ ?_ | refine frk9 ?_ ?_) <;> intro h <;> try (exfalso; omega)) | with_reducible refine quiet_and ?_ ?_ | with_reducible refine awp_drawnA mixed (by decide +kernel) ?_ | ((fail_if_success with_reducible refine stp ?_); simp -implicitDefEqProofs only [go_sem, Nat.reduceEqDiff, Nat.reduceAdd, Nat.reduceLT, Nat.reduceMul, Nat.reduceSub, Nat.reduceLeDiff, ↓reduceIte, reduceCtorEq, ↓String.reduceEq, String.reduceNe, Int.reduceToNat, Int.reduceLT, Int.reduceLE, Int.reduceGT, Int.reduceGE, Int.reduceEq, Int.reduceNe, Int.reduceBEq, Int.reduceBNe, Int.reduceAdd, Int.reduceSub, Int.reduceMul, Int.reduceNeg,  encS, encSc, *]))
    refine CallWP.to (sright_spec G s _) ?_
    rw [← HE.out]
    repeat' (first | exact tf0 ‹_› | exact tf1 ‹_› | exact False.elim ‹_› | (with_reducible refine Al.intro ?_; intro pb hpb; (try simp only [hupd_none'] at hpb); (repeat rcases hpb with ⟨⟨hpx, hpy⟩, hpb⟩)) | with_reducible refine need ?_ | ((with_reducible first | refine frk0 ?_ ?_ | refine frk1 ?_ ?_ | refine frk2 ?_ ?_ | refine frk3 ?_ ?_ | refine frk4 ?_ ?_ | refine frk5 ?_ ?_ | refine frk6 ?_ ?_ | refine frk7 ?_ ?_ | refine frk8 ?_ ?_ | refine frk9 ?_ ?_) <;> intro h <;> try (exfalso; omega)) | with_reducible refine quiet_and ?_ ?_ | with_reducible refine awp_drawnA mixed (by decide +kernel) ?_ | ((fail_if_success with_reducible refine stp ?_); simp -implicitDefEqProofs only [go_sem, Nat.reduceEqDiff, Nat.reduceAdd, Nat.reduceLT, Nat.reduceMul, Nat.reduceSub, Nat.reduceLeDiff, ↓reduceIte, reduceCtorEq, ↓String.reduceEq, String.reduceNe, Int.reduceToNat, Int.reduceLT, Int.reduceLE, Int.reduceGT, Int.reduceGE, Int.reduceEq, Int.reduceNe, Int.reduceBEq, Int.reduceBNe, Int.reduceAdd, Int.reduceSub, Int.reduceMul, Int.reduceNeg,  encS, encSc, *]))
    refine CallWP.to (HM.out _) ?_
    repeat' (first | exact tf0 ‹_› | exact tf1 ‹_› | exact False.elim ‹_› | (with_reducible refine Al.intro ?_; intro pb hpb; (try simp only [hupd_none'] at hpb); (repeat rcases hpb with ⟨⟨hpx, hpy⟩, hpb⟩)) | with_reducible refine need ?_ | ((with_reducible first | refine frk0 ?_ ?_ | refine frk1 ?_ ?_ | refine frk2 ?_ ?_ | refine frk3 ?_ ?_ | refine frk4 ?_ ?_ | refine frk5 ?_ ?_ | refine frk6 ?_ ?_ | refine frk7 ?_ ?_ | refine frk8 ?_ ?_ | refine frk9 ?_ ?_) <;> intro h <;> try (exfalso; omega)) | with_reducible refine quiet_and ?_ ?_ | with_reducible refine awp_drawnA mixed (by decide +kernel) ?_ | ((fail_if_success with_reducible refine stp ?_); simp -implicitDefEqProofs only [go_sem, Nat.reduceEqDiff, Nat.reduceAdd, Nat.reduceLT, Nat.reduceMul, Nat.reduceSub, Nat.reduceLeDiff, ↓reduceIte, reduceCtorEq, ↓String.reduceEq, String.reduceNe, Int.reduceToNat, Int.reduceLT, Int.reduceLE, Int.reduceGT, Int.reduceGE, Int.reduceEq, Int.reduceNe, Int.reduceBEq, Int.reduceBNe, Int.reduceAdd, Int.reduceSub, Int.reduceMul, Int.reduceNeg,  *]))
    refine ⟨m, (by (repeat refine Sub.fresh ?_ (by assumption)); exact Sub.refl m), ?_, rfl⟩
    rw [hc.out]
  · have hc : Hid (costS s = 0) := .mk (by unfold costS; rw [if_neg (by omega)])
    clear he
    refine callWP_body Tryd.func41 rfl (N := 10) rfl (rs := [.tmp 2]) rfl en_41 (of_decide_eq_true rfl) ?_
    repeat' (first | exact tf0 ‹_› | exact tf1 ‹_› | exact False.elim ‹_› | (with_reducible refine Al.intro ?_; intro pb hpb; (try simp only [hupd_none'] at hpb); (repeat rcases hpb with ⟨⟨hpx, hpy⟩, hpb⟩)) | with_reducible refine need ?_ | ((with_reducible first | refine frk0 ?_ ?_ | refine frk1 ?_ ?_ | refine frk2 ?_ ?_ | refine frk3 ?_ ?_ | refine frk4 ?_ ?_ | refine frk5 ?_ ?_ | refine frk6 ?_ ?_ | refine frk7 ?_ ?_ | refine frk8 ?_ ?_ | refine frk9 ?_ ?_) <;> intro h <;> try (exfalso; omega)) | with_reducible refine quiet_and ?_ ?_ | with_reducible refine awp_drawnA mixed (by decide +kernel) ?_ | ((fail_if_success with_reducible refine stp ?_); simp -implicitDefEqProofs only [go_sem, Nat.reduceEqDiff, Nat.reduceAdd, Nat.reduceLT, Nat.reduceMul, Nat.reduceSub, Nat.reduceLeDiff, ↓reduceIte, reduceCtorEq, ↓String.reduceEq, String.reduceNe, Int.reduceToNat, Int.reduceLT, Int.reduceLE, Int.reduceGT, Int.reduceGE, Int.reduceEq, Int.reduceNe, Int.reduceBEq, Int.reduceBNe, Int.reduceAdd, Int.reduceSub, Int.reduceMul, Int.reduceNeg,  encS, encSc, *]))
    refine CallWP.to (sright_spec G s _) ?_
    rw [← HE.out]
    repeat' (first | exact tf0 ‹_› | exact tf1 ‹_› | exact False.elim ‹_› | (with_reducible refine Al.intro ?_; intro pb hpb; (try simp only [hupd_none'] at hpb); (repeat rcases hpb with ⟨⟨hpx, hpy⟩, hpb⟩)) | with_reducible refine need ?_ | ((with_reducible first | refine frk0 ?_ ?_ | refine frk1 ?_ ?_ | refine frk2 ?_ ?_ | refine frk3 ?_ ?_ | refine frk4 ?_ ?_ | refine frk5 ?_ ?_ | refine frk6 ?_ ?_ | refine frk7 ?_ ?_ | refine frk8 ?_ ?_ | refine frk9 ?_ ?_) <;> intro h <;> try (exfalso; omega)) | with_reducible refine quiet_and ?_ ?_ | with_reducible refine awp_drawnA mixed (by decide +kernel) ?_ | ((fail_if_success with_reducible refine stp ?_); simp -implicitDefEqProofs only [go_sem, Nat.reduceEqDiff, Nat.reduceAdd, Nat.reduceLT, Nat.reduceMul, Nat.reduceSub, Nat.reduceLeDiff, ↓reduceIte, reduceCtorEq, ↓String.reduceEq, String.reduceNe, Int.reduceToNat, Int.reduceLT, Int.reduceLE, Int.reduceGT, Int.reduceGE, Int.reduceEq, Int.reduceNe, Int.reduceBEq, Int.reduceBNe, Int.reduceAdd, Int.reduceSub, Int.reduceMul, Int.reduceNeg,  encS, encSc, *]))
    refine ⟨m, (by (repeat refine Sub.fresh ?_ (by assumption)); exact Sub.refl m), ?_, rfl⟩
    rw [hc.out]
end Go.Proofs.YtdckcophbmnjjaaDoor
namespace Go.Proofs.YtdckcophbmnjjaaDoor
open Go Go.Proofs.YtdckcophbmnjjaaDoor.Ab
open Go.Proofs (Tryd.prog)
set_option maxRecDepth 100000
/-- A row of streams that is read. -/
def RdS (C : List Stm) (v : AVal) (m : Heap) : Prop := SlM encSc 7 C v m ∨ v = .list 7 (C.map encS)
theorem RdS.into {C : List Stm} {v : AVal} {m m2 : Heap} (h : RdS C v m) (s : Sub m m2) : RdS C v m2 := h.imp (fun h => h.into s) id
/-- How a row lies: behind a place, or as it was handed in; pre and post are empty where it does not lie behind a place. -/
theorem RdS.ways {C : List Stm} {v : AVal} {m : Heap} {L : Nat} (h : RdS C v m) (hL : L = C.length) : ∃ b pre post N cap, (v = .nils ∧ L = 0) ∨ (v = .slice b pre.length L cap ∧ m b = some (.cells (pre ++ (C.flatMap encSc ++ post)) N)) ∨ v = .list 7 (C.map encS) := by
  rcases h with (⟨h1, h2⟩ | ⟨b, blk, hb, pre, post, N, cap, h1, rfl, -, -⟩) | h
  · exact ⟨0, [], [], 0, 0, .inl ⟨h1, by rw [hL, h2]; rfl⟩⟩
  · exact ⟨b, pre, post, N, cap, .inr (.inl ⟨by rw [hL]; exact h1, hb⟩)⟩
  · exact ⟨0, [], [], 0, 0, .inr (.inr h)⟩
theorem sm_cell (C : List Stm) (pre post : List AVal) (i : Nat) (hi : i < C.length) (x : Stm) (hx : C.getD i default = x) (k : Nat) (hk : k < 7) :
    (pre ++ (C.flatMap encSc ++ post)).getD (pre.length + i * 7 + k) .undef = (encSc x).getD k .undef := by
  have h := row_at encSc_len C pre post i hi
  rw [hx] at h
  generalize pre ++ (C.flatMap encSc ++ post) = L at h
  generalize pre.length + i * 7 = a at h
  rw [← h]
  simp [List.getD_eq_getElem?_getD, List.getElem?_take, hk]
theorem sm_at (C : List Stm) (pre post : List AVal) (i : Nat) (hi : i < C.length) (x : Stm) (hx : C.getD i default = x) : ((pre ++ (C.flatMap encSc ++ post)).drop (pre.length + i * 7)).take 7 = encSc x := by
  rw [row_at encSc_len C pre post i hi, hx]
theorem sm_len (C : List Stm) (pre post : List AVal) (i : Nat) (hi : i < C.length) : pre.length + i * 7 + 7 ≤ (pre ++ (C.flatMap encSc ++ post)).length := row_len encSc_len C pre post i hi
theorem sm_lst (C : List Stm) (i : Nat) (h : i < C.length) (x : Stm) (hx : C.getD i default = x) : (C.map encS).getD i .undef = .agg (encSc x) := by
  rw [← hx]; simp [List.getD_eq_getElem?_getD, h, encS]
/-- The place of a stream. -/
def findF (C : List Stm) (id : Int) : Int := match C.findIdx? fun s => decide (s.1 = id) with
  | some i => (i : Int)
  | none => -1
theorem findF_at {C : List Stm} {id : Int} {i : Nat} (hi : i < C.length) (h : (C.getD i default).1 = id) (hb : ∀ s ∈ C.take i, s.1 ≠ id) : findF C id = i := by
  unfold findF
  have e : (C.findIdx? fun s => decide (s.1 = id)) = some i := by
    rw [List.findIdx?_eq_some_iff_getElem]
    refine ⟨hi, ?_, ?_⟩
    · have : C.getD i default = C[i] := by simp [List.getD_eq_getElem?_getD, hi]
      rw [← this, h]; simp
    · intro j hj
      have hm : C[j] ∈ C.take i := by
        rw [List.mem_take_iff_getElem]
        exact ⟨j, by omega, rfl⟩
      simpa using hb _ hm
  rw [e]
theorem findF_none {C : List Stm} {id : Int} (hb : ∀ s ∈ C, s.1 ≠ id) : findF C id = -1 := by
  unfold findF
  have e : (C.findIdx? fun s => decide (s.1 = id)) = none := by
    rw [List.findIdx?_eq_none_iff]
    intro s hs
    simpa using hb s hs
  rw [e]
end Go.Proofs.YtdckcophbmnjjaaDoor
namespace Go.Proofs.YtdckcophbmnjjaaDoor
open Go Go.Proofs.YtdckcophbmnjjaaDoor.Ab
open Go.Proofs (Tryd.prog)
set_option maxRecDepth 100000
/-- May streams and a length be? -/
def rightC (C : List Stm) (n : Int) : Prop := C.length ≤ 64 ∧ (1 ≤ n ∧ n ≤ 1073741824) ∧ (∀ s ∈ C, rightS s = 0) ∧ (∀ i, i < C.length → (i : Int) ≤ findF C (C.getD i default).1) ∧ ∀ s ∈ C, s.2.2.1 = 1 → n ≤ s.2.2.2.2.1
theorem take_one (C : List Stm) (i : Nat) (h : i < C.length) : C.take (i + 1) = C.take i ++ [C.getD i default] := by
  rw [List.take_add_one]; simp [List.getD_eq_getElem?_getD, h]
end Go.Proofs.YtdckcophbmnjjaaDoor
