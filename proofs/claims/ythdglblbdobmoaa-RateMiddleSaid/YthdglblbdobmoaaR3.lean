/- Numbers of 128 bits: the document's, and the program's. -/
import Derived.Test.YthdglblbdobmoaaR2
set_option linter.all false
namespace Go.Proofs.Ythdglblbdobmoaa
open Go Go.Proofs.Ythdglblbdobmoaa.Ab
open Go.Proofs (Try.prog)
set_option maxRecDepth 100000
/-- A number of 128 bits, in two halves. -/
def W128 (n : Nat) : AVal := .agg [.int .u64 ((n / 18446744073709551616 : Nat) : Int), .int .u64 ((n % 18446744073709551616 : Nat) : Int)]
theorem w128_eq {a b : Int} {n : Nat} (ha : a = ((n / 18446744073709551616 : Nat) : Int)) (hb : b = ((n % 18446744073709551616 : Nat) : Int)) : AVal.agg [.int .u64 a, .int .u64 b] = W128 n := by
  rw [ha, hb]; rfl
theorem double_spec (G : Nat → AVal) (n bit : Nat) (h : n < 170141183460469231731687303715884105728) (hb : bit ≤ 1) : Ans G 44 [W128 n, .int .u64 bit] (W128 (2 * n + bit)) := by
  intro m
  refine callWP_body Try.func44 rfl (N := 18) rfl (rs := [.cell 4 77]) rfl en_44 (of_decide_eq_true rfl) ?_
  unfold W128
  have a1 : ashl .u64 ((n / 18446744073709551616 : Nat) : Int) 1 = ((n / 18446744073709551616 * 2 ^ 1 : Nat) : Int) := by
    rw [shl_u64 (by decide) (by decide)]
    have := mod_c (n / 18446744073709551616 * 2 ^ 1) (by omega)
    rw [← this]; simp
  have a2 : ashr .u64 ((n % 18446744073709551616 : Nat) : Int) 63 = ((n % 18446744073709551616 / 9223372036854775808 : Nat) : Int) := by
    rw [shr_u64 (by omega) (by decide) (by decide)]; simp
  have a3 : ashl .u64 ((n % 18446744073709551616 : Nat) : Int) 1 = (((n % 9223372036854775808) * 2 ^ 1 : Nat) : Int) := by
    rw [shl_u64 (by decide) (by decide)]
    have : ((n % 18446744073709551616 : Nat) : Int) * 2 ^ (1 : Int).toNat % 18446744073709551616 = ((n % 18446744073709551616 * 2 % 18446744073709551616 : Nat) : Int) := by rw [show ((2 : Int) ^ (1 : Int).toNat) = 2 from rfl]; omega
    rw [this]; congr 1; omega
  have a4 := or_disj (a := n / 18446744073709551616) (b := n % 18446744073709551616 / 9223372036854775808) 1 (by omega) (by omega)
  have a5 := or_disj (a := n % 9223372036854775808) (b := bit) 1 (by omega) (by omega)
  repeat' (first | exact absurd ‹true = false› Bool.noConfusion | exact absurd ‹false = true› Bool.noConfusion | exact False.elim ‹False› | (with_reducible refine Al.intro ?_; intro pb hpb; (try simp only [hupd_none'] at hpb); (repeat rcases hpb with ⟨⟨hpx, hpy⟩, hpb⟩)) | with_reducible refine Need.intro (by first | omega | (with_reducible assumption) | (simp only [List.length_map, List.length_cons, List.length_nil]; omega) | (refine ⟨?_, ?_⟩ <;> omega) | (refine ⟨?_, ?_, ?_⟩ <;> omega) | (simp; done) | (simp; omega)) ?_ | (with_reducible refine condA_dec _ _ _ (fun h => ?_) (fun h => ?_) <;> try (exfalso; omega)) | (with_reducible refine condA_beq _ _ _ _ (fun h => ?_) (fun h => ?_) <;> try (exfalso; omega)) | (with_reducible refine condA_bne _ _ _ _ (fun h => ?_) (fun h => ?_) <;> try (exfalso; omega)) | (with_reducible refine condA_nt _ _ _ (fun h => ?_) (fun h => ?_) <;> try (exfalso; omega)) | (with_reducible refine condA_bool _ _ _ (fun h => ?_) (fun h => ?_) <;> try (exfalso; omega)) | (with_reducible refine gV_dec _ _ _ _ (fun h => ?_) (fun h => ?_) <;> try (exfalso; omega)) | (with_reducible refine gV_beq _ _ _ _ _ (fun h => ?_) (fun h => ?_) <;> try (exfalso; omega)) | (with_reducible refine gV_bne _ _ _ _ _ (fun h => ?_) (fun h => ?_) <;> try (exfalso; omega)) | (with_reducible refine gV_true _ _ _ (fun h => ?_) (fun h => ?_) <;> try (exfalso; omega)) | (with_reducible refine gV_false _ _ _ (fun h => ?_) (fun h => ?_) <;> try (exfalso; omega)) | with_reducible refine awp_drawnA mixed (by decide +kernel) ?_ | ((fail_if_success with_reducible refine isCall ?_); (fail_if_success with_reducible refine isAWP ?_); (fail_if_success with_reducible refine isPart ?_); (fail_if_success with_reducible refine isAgain ?_); simp -implicitDefEqProofs only [go_sem, Nat.reduceEqDiff, Nat.reduceAdd, Nat.reduceLT, Nat.reduceMul, Nat.reduceSub, Nat.reduceLeDiff, ↓reduceIte, reduceCtorEq, ↓String.reduceEq, String.reduceNe, Int.reduceToNat, Int.reduceLT, Int.reduceLE, Int.reduceGT, Int.reduceGE, Int.reduceEq, Int.reduceNe, Int.reduceBEq, Int.reduceBNe, Int.reduceAdd, Int.reduceSub, Int.reduceMul, Int.reduceNeg, Int.toNat_natCast, Int.toNat_zero, Int.cast_ofNat_Int, Nat.mul_one, Nat.zero_mul, Nat.reduceEqDiff, Int.le_refl, decide_true, decide_false, and_self, bne_iff_ne, beq_iff_eq, ne_eq, not_false_eq_true, not_true_eq_false,  mkRes, autoOrd, ordG, effs, isLook, isEff, Stab_none, exitA_ret, exitA_normal, exitA_goto, exitA_exit, ↓run_scope, ↓run_goto, ↓run_label, thenA_goto, blockA_goto, jumpA_normal, jumpA_ret, jumpA_exit, jumpA_goto, List.take_succ_cons, *]))
  refine ⟨m, (by (repeat refine Sub.fresh ?_ (by assumption)); exact Sub.refl m), ?_, rfl⟩
  refine w128_eq ?_ ?_
  · congr 1; omega
  · congr 1; omega
theorem plus_spec (G : Nat → AVal) (a b : Nat) (h : a + b < 340282366920938463463374607431768211456) : Ans G 39 [W128 a, W128 b] (W128 (a + b)) := by
  intro m
  refine callWP_body Try.func39 rfl (N := 26) rfl (rs := [.cell 4 77]) rfl en_39 (of_decide_eq_true rfl) ?_
  unfold W128
  repeat' (first | exact absurd ‹true = false› Bool.noConfusion | exact absurd ‹false = true› Bool.noConfusion | exact False.elim ‹False› | (with_reducible refine Al.intro ?_; intro pb hpb; (try simp only [hupd_none'] at hpb); (repeat rcases hpb with ⟨⟨hpx, hpy⟩, hpb⟩)) | with_reducible refine Need.intro (by first | omega | (with_reducible assumption) | (simp only [List.length_map, List.length_cons, List.length_nil]; omega) | (refine ⟨?_, ?_⟩ <;> omega) | (refine ⟨?_, ?_, ?_⟩ <;> omega) | (simp; done) | (simp; omega)) ?_ | (with_reducible refine condA_dec _ _ _ (fun h => ?_) (fun h => ?_) <;> try (exfalso; omega)) | (with_reducible refine condA_beq _ _ _ _ (fun h => ?_) (fun h => ?_) <;> try (exfalso; omega)) | (with_reducible refine condA_bne _ _ _ _ (fun h => ?_) (fun h => ?_) <;> try (exfalso; omega)) | (with_reducible refine condA_nt _ _ _ (fun h => ?_) (fun h => ?_) <;> try (exfalso; omega)) | (with_reducible refine condA_bool _ _ _ (fun h => ?_) (fun h => ?_) <;> try (exfalso; omega)) | (with_reducible refine gV_dec _ _ _ _ (fun h => ?_) (fun h => ?_) <;> try (exfalso; omega)) | (with_reducible refine gV_beq _ _ _ _ _ (fun h => ?_) (fun h => ?_) <;> try (exfalso; omega)) | (with_reducible refine gV_bne _ _ _ _ _ (fun h => ?_) (fun h => ?_) <;> try (exfalso; omega)) | (with_reducible refine gV_true _ _ _ (fun h => ?_) (fun h => ?_) <;> try (exfalso; omega)) | (with_reducible refine gV_false _ _ _ (fun h => ?_) (fun h => ?_) <;> try (exfalso; omega)) | with_reducible refine awp_drawnA mixed (by decide +kernel) ?_ | ((fail_if_success with_reducible refine isCall ?_); (fail_if_success with_reducible refine isAWP ?_); (fail_if_success with_reducible refine isPart ?_); (fail_if_success with_reducible refine isAgain ?_); simp -implicitDefEqProofs only [go_sem, Nat.reduceEqDiff, Nat.reduceAdd, Nat.reduceLT, Nat.reduceMul, Nat.reduceSub, Nat.reduceLeDiff, ↓reduceIte, reduceCtorEq, ↓String.reduceEq, String.reduceNe, Int.reduceToNat, Int.reduceLT, Int.reduceLE, Int.reduceGT, Int.reduceGE, Int.reduceEq, Int.reduceNe, Int.reduceBEq, Int.reduceBNe, Int.reduceAdd, Int.reduceSub, Int.reduceMul, Int.reduceNeg, Int.toNat_natCast, Int.toNat_zero, Int.cast_ofNat_Int, Nat.mul_one, Nat.zero_mul, Nat.reduceEqDiff, Int.le_refl, decide_true, decide_false, and_self, bne_iff_ne, beq_iff_eq, ne_eq, not_false_eq_true, not_true_eq_false,  mkRes, autoOrd, ordG, effs, isLook, isEff, Stab_none, exitA_ret, exitA_normal, exitA_goto, exitA_exit, ↓run_scope, ↓run_goto, ↓run_label, thenA_goto, blockA_goto, jumpA_normal, jumpA_ret, jumpA_exit, jumpA_goto, List.take_succ_cons, *]))
  all_goals refine ⟨m, (by (repeat refine Sub.fresh ?_ (by assumption)); exact Sub.refl m), ?_, rfl⟩
  all_goals refine w128_eq ?_ ?_
  all_goals simp only [wrap_u64] at *
  all_goals omega
theorem plus_lo (G : Nat → AVal) (x a : Nat) (ha : a < 18446744073709551616) (h : x + a < 340282366920938463463374607431768211456) : Ans G 39 [W128 x, .agg [.int .u64 0, .int .u64 a]] (W128 (x + a)) := by
  rw [w128_eq (n := a) (by omega) (by omega)]
  exact plus_spec G x a h
theorem bit_at (b j : Nat) (hb : b < 18446744073709551616) (hj : j < 64) : abits .and .u64 (ashr .u64 (b : Int) (IntKind.u64.wrap (63 - (j : Int)))) 1 = ((b / 2 ^ (63 - j) % 2 : Nat) : Int) := by
  have e : IntKind.u64.wrap (63 - (j : Int)) = ((63 - j : Nat) : Int) := by rw [wrap_u64' (by omega) (by omega)]; omega
  rw [e, shr_u64 (by omega) (by omega) (by omega), Int.toNat_natCast]
  have e2 : (b : Int) / 2 ^ (63 - j) = ((b / 2 ^ (63 - j) : Nat) : Int) := by simp
  have l : b / 2 ^ (63 - j) < 18446744073709551616 := Nat.lt_of_le_of_lt (Nat.div_le_self _ _) hb
  rw [e2, show (1 : Int) = ((1 : Nat) : Int) from rfl, and_u64 _ 1 l (by decide), Nat.and_one_is_mod]
theorem half_step (b k : Nat) : b / 2 ^ k = 2 * (b / 2 ^ (k + 1)) + b / 2 ^ k % 2 := by
  rw [Nat.pow_succ, ← Nat.div_div_eq_div_mul]; omega
set_option maxHeartbeats 4000000 in
theorem times_spec (G : Nat → AVal) (a b : Nat) (ha : a < 18446744073709551616) (hb : b < 18446744073709551616) : Ans G 37 [.int .u64 a, .int .u64 b] (W128 (a * b)) := by
  intro m
  refine callWP_body Try.func37 rfl (N := 24) rfl (rs := [.cell 4 77]) rfl en_37 (of_decide_eq_true rfl) ?_
  repeat' (first | exact absurd ‹true = false› Bool.noConfusion | exact absurd ‹false = true› Bool.noConfusion | exact False.elim ‹False› | (with_reducible refine Al.intro ?_; intro pb hpb; (try simp only [hupd_none'] at hpb); (repeat rcases hpb with ⟨⟨hpx, hpy⟩, hpb⟩)) | with_reducible refine Need.intro (by first | omega | (with_reducible assumption) | (simp only [List.length_map, List.length_cons, List.length_nil]; omega) | (refine ⟨?_, ?_⟩ <;> omega) | (refine ⟨?_, ?_, ?_⟩ <;> omega) | (simp; done) | (simp; omega)) ?_ | (with_reducible refine condA_dec _ _ _ (fun h => ?_) (fun h => ?_) <;> try (exfalso; omega)) | (with_reducible refine condA_beq _ _ _ _ (fun h => ?_) (fun h => ?_) <;> try (exfalso; omega)) | (with_reducible refine condA_bne _ _ _ _ (fun h => ?_) (fun h => ?_) <;> try (exfalso; omega)) | (with_reducible refine condA_nt _ _ _ (fun h => ?_) (fun h => ?_) <;> try (exfalso; omega)) | (with_reducible refine condA_bool _ _ _ (fun h => ?_) (fun h => ?_) <;> try (exfalso; omega)) | (with_reducible refine gV_dec _ _ _ _ (fun h => ?_) (fun h => ?_) <;> try (exfalso; omega)) | (with_reducible refine gV_beq _ _ _ _ _ (fun h => ?_) (fun h => ?_) <;> try (exfalso; omega)) | (with_reducible refine gV_bne _ _ _ _ _ (fun h => ?_) (fun h => ?_) <;> try (exfalso; omega)) | (with_reducible refine gV_true _ _ _ (fun h => ?_) (fun h => ?_) <;> try (exfalso; omega)) | (with_reducible refine gV_false _ _ _ (fun h => ?_) (fun h => ?_) <;> try (exfalso; omega)) | with_reducible refine awp_drawnA mixed (by decide +kernel) ?_ | ((fail_if_success with_reducible refine isCall ?_); (fail_if_success with_reducible refine isAWP ?_); (fail_if_success with_reducible refine isPart ?_); (fail_if_success with_reducible refine isAgain ?_); simp -implicitDefEqProofs only [go_sem, Nat.reduceEqDiff, Nat.reduceAdd, Nat.reduceLT, Nat.reduceMul, Nat.reduceSub, Nat.reduceLeDiff, ↓reduceIte, reduceCtorEq, ↓String.reduceEq, String.reduceNe, Int.reduceToNat, Int.reduceLT, Int.reduceLE, Int.reduceGT, Int.reduceGE, Int.reduceEq, Int.reduceNe, Int.reduceBEq, Int.reduceBNe, Int.reduceAdd, Int.reduceSub, Int.reduceMul, Int.reduceNeg, Int.toNat_natCast, Int.toNat_zero, Int.cast_ofNat_Int, Nat.mul_one, Nat.zero_mul, Nat.reduceEqDiff, Int.le_refl, decide_true, decide_false, and_self, bne_iff_ne, beq_iff_eq, ne_eq, not_false_eq_true, not_true_eq_false,  mkRes, autoOrd, ordG, effs, isLook, isEff, Stab_none, exitA_ret, exitA_normal, exitA_goto, exitA_exit, ↓run_scope, ↓run_goto, ↓run_label, thenA_goto, blockA_goto, jumpA_normal, jumpA_ret, jumpA_exit, jumpA_goto, List.take_succ_cons, *]))
  rename_i b4 hb4
  refine awp_loopP 0 (fun ts m' => ts 4 = .ptr b4 0 ∧ ts 5 = .ptr pb 0 ∧ m' = hupd (hupd m b4 (.cells [.int .u64 0, .int .u64 0] 2)) pb (.cells [.int .u64 ((a * b / 18446744073709551616 : Nat) : Int), .int .u64 ((a * b % 18446744073709551616 : Nat) : Int)] 2))
    (fun k ts m' => ∃ j n : Nat, k = 64 - j ∧ j ≤ 64 ∧ Hid (n = a * (b / 2 ^ (64 - j))) ∧ ts 0 = .int .u64 a ∧ ts 1 = .int .u64 b ∧ ts 4 = .ptr b4 0 ∧ ts 5 = .ptr pb 0 ∧ ts 6 = .int .i64 (63 - j) ∧ m' = hupd (hupd m b4 (.cells [.int .u64 0, .int .u64 0] 2)) pb (.cells [.int .u64 ((n / 18446744073709551616 : Nat) : Int), .int .u64 ((n % 18446744073709551616 : Nat) : Int)] 2)) 64
    ⟨0, 0, rfl, by decide, by rw [Nat.div_eq_of_lt (by exact hb)]; exact rfl, by simp [upd, put], by simp [upd, put], by simp [upd, put], by simp [upd, put], by simp [upd, put], rfl⟩ ?_ ?_
  · rintro k ts m' ⟨j, n, rfl, hj, hn, t0, t1, t4, t5, t6, rfl⟩
    repeat' (first | exact absurd ‹true = false› Bool.noConfusion | exact absurd ‹false = true› Bool.noConfusion | exact False.elim ‹False› | (with_reducible refine Al.intro ?_; intro pb hpb; (try simp only [hupd_none'] at hpb); (repeat rcases hpb with ⟨⟨hpx, hpy⟩, hpb⟩)) | with_reducible refine Need.intro (by first | omega | (with_reducible assumption) | (simp only [List.length_map, List.length_cons, List.length_nil]; omega) | (refine ⟨?_, ?_⟩ <;> omega) | (refine ⟨?_, ?_, ?_⟩ <;> omega) | (simp; done) | (simp; omega)) ?_ | (with_reducible refine condA_dec _ _ _ (fun h => ?_) (fun h => ?_) <;> try (exfalso; omega)) | (with_reducible refine condA_beq _ _ _ _ (fun h => ?_) (fun h => ?_) <;> try (exfalso; omega)) | (with_reducible refine condA_bne _ _ _ _ (fun h => ?_) (fun h => ?_) <;> try (exfalso; omega)) | (with_reducible refine condA_nt _ _ _ (fun h => ?_) (fun h => ?_) <;> try (exfalso; omega)) | (with_reducible refine condA_bool _ _ _ (fun h => ?_) (fun h => ?_) <;> try (exfalso; omega)) | (with_reducible refine gV_dec _ _ _ _ (fun h => ?_) (fun h => ?_) <;> try (exfalso; omega)) | (with_reducible refine gV_beq _ _ _ _ _ (fun h => ?_) (fun h => ?_) <;> try (exfalso; omega)) | (with_reducible refine gV_bne _ _ _ _ _ (fun h => ?_) (fun h => ?_) <;> try (exfalso; omega)) | (with_reducible refine gV_true _ _ _ (fun h => ?_) (fun h => ?_) <;> try (exfalso; omega)) | (with_reducible refine gV_false _ _ _ (fun h => ?_) (fun h => ?_) <;> try (exfalso; omega)) | with_reducible refine awp_drawnA mixed (by decide +kernel) ?_ | ((fail_if_success with_reducible refine isCall ?_); (fail_if_success with_reducible refine isAWP ?_); (fail_if_success with_reducible refine isPart ?_); (fail_if_success with_reducible refine isAgain ?_); simp -implicitDefEqProofs only [go_sem, Nat.reduceEqDiff, Nat.reduceAdd, Nat.reduceLT, Nat.reduceMul, Nat.reduceSub, Nat.reduceLeDiff, ↓reduceIte, reduceCtorEq, ↓String.reduceEq, String.reduceNe, Int.reduceToNat, Int.reduceLT, Int.reduceLE, Int.reduceGT, Int.reduceGE, Int.reduceEq, Int.reduceNe, Int.reduceBEq, Int.reduceBNe, Int.reduceAdd, Int.reduceSub, Int.reduceMul, Int.reduceNeg, Int.toNat_natCast, Int.toNat_zero, Int.cast_ofNat_Int, Nat.mul_one, Nat.zero_mul, Nat.reduceEqDiff, Int.le_refl, decide_true, decide_false, and_self, bne_iff_ne, beq_iff_eq, ne_eq, not_false_eq_true, not_true_eq_false,  mkRes, autoOrd, ordG, effs, isLook, isEff, Stab_none, exitA_ret, exitA_normal, exitA_goto, exitA_exit, ↓run_scope, ↓run_goto, ↓run_label, thenA_goto, blockA_goto, jumpA_normal, jumpA_ret, jumpA_exit, jumpA_goto, List.take_succ_cons, *]))
    · have hlt : j < 64 := by omega
      have hb1 := bit_at b j hb hlt
      have hs : Hid (_) := Hid.mk (half_step b (63 - j))
      have hnb : n ≤ 18446744073709551615 * 9223372036854775807 := by
        have h1 : b / 2 ^ (64 - j) < 2 ^ j := by
          refine (Nat.div_lt_iff_lt_mul (Nat.pow_pos (by decide))).2 ?_
          rw [← Nat.pow_add, show j + (64 - j) = 64 by omega]; exact hb
        have h2 : 2 ^ j ≤ 2 ^ 63 := Nat.pow_le_pow_right (by decide) (by omega)
        rw [hn.out]
        have h3 : a * (b / 2 ^ (64 - j)) ≤ 18446744073709551615 * 9223372036854775807 := Nat.mul_le_mul (by omega) (by omega)
        exact h3
      refine CallWP.to (double_spec G n 0 (by omega) (by decide) _) ?_
      have hi1 : IntKind.i64.wrap (63 - (j : Int) - 1) = 63 - ((j + 1 : Nat) : Int) := by rw [wrap_i64 (by omega) (by omega)]; omega
      repeat' (first | exact absurd ‹true = false› Bool.noConfusion | exact absurd ‹false = true› Bool.noConfusion | exact False.elim ‹False› | (with_reducible refine Al.intro ?_; intro pb hpb; (try simp only [hupd_none'] at hpb); (repeat rcases hpb with ⟨⟨hpx, hpy⟩, hpb⟩)) | with_reducible refine Need.intro (by first | omega | (with_reducible assumption) | (simp only [List.length_map, List.length_cons, List.length_nil]; omega) | (refine ⟨?_, ?_⟩ <;> omega) | (refine ⟨?_, ?_, ?_⟩ <;> omega) | (simp; done) | (simp; omega)) ?_ | (with_reducible refine condA_dec _ _ _ (fun h => ?_) (fun h => ?_) <;> try (exfalso; omega)) | (with_reducible refine condA_beq _ _ _ _ (fun h => ?_) (fun h => ?_) <;> try (exfalso; omega)) | (with_reducible refine condA_bne _ _ _ _ (fun h => ?_) (fun h => ?_) <;> try (exfalso; omega)) | (with_reducible refine condA_nt _ _ _ (fun h => ?_) (fun h => ?_) <;> try (exfalso; omega)) | (with_reducible refine condA_bool _ _ _ (fun h => ?_) (fun h => ?_) <;> try (exfalso; omega)) | (with_reducible refine gV_dec _ _ _ _ (fun h => ?_) (fun h => ?_) <;> try (exfalso; omega)) | (with_reducible refine gV_beq _ _ _ _ _ (fun h => ?_) (fun h => ?_) <;> try (exfalso; omega)) | (with_reducible refine gV_bne _ _ _ _ _ (fun h => ?_) (fun h => ?_) <;> try (exfalso; omega)) | (with_reducible refine gV_true _ _ _ (fun h => ?_) (fun h => ?_) <;> try (exfalso; omega)) | (with_reducible refine gV_false _ _ _ (fun h => ?_) (fun h => ?_) <;> try (exfalso; omega)) | with_reducible refine awp_drawnA mixed (by decide +kernel) ?_ | ((fail_if_success with_reducible refine isCall ?_); (fail_if_success with_reducible refine isAWP ?_); (fail_if_success with_reducible refine isPart ?_); (fail_if_success with_reducible refine isAgain ?_); simp -implicitDefEqProofs only [go_sem, Nat.reduceEqDiff, Nat.reduceAdd, Nat.reduceLT, Nat.reduceMul, Nat.reduceSub, Nat.reduceLeDiff, ↓reduceIte, reduceCtorEq, ↓String.reduceEq, String.reduceNe, Int.reduceToNat, Int.reduceLT, Int.reduceLE, Int.reduceGT, Int.reduceGE, Int.reduceEq, Int.reduceNe, Int.reduceBEq, Int.reduceBNe, Int.reduceAdd, Int.reduceSub, Int.reduceMul, Int.reduceNeg, Int.toNat_natCast, Int.toNat_zero, Int.cast_ofNat_Int, Nat.mul_one, Nat.zero_mul, Nat.reduceEqDiff, Int.le_refl, decide_true, decide_false, and_self, bne_iff_ne, beq_iff_eq, ne_eq, not_false_eq_true, not_true_eq_false,  W128, autoOrd, ordG, effs, isLook, isEff, Stab_none, exitA_ret, exitA_normal, exitA_goto, exitA_exit, ↓run_scope, ↓run_goto, ↓run_label, thenA_goto, blockA_goto, jumpA_normal, jumpA_ret, jumpA_exit, jumpA_goto, List.take_succ_cons, *]))
      · rename_i hbit
        have hbit' : b / 2 ^ (63 - j) % 2 = 1 := by omega
        refine CallWP.to (plus_lo G (2 * n + 0) a ha (by omega) _) ?_
        repeat' (first | exact absurd ‹true = false› Bool.noConfusion | exact absurd ‹false = true› Bool.noConfusion | exact False.elim ‹False› | (with_reducible refine Al.intro ?_; intro pb hpb; (try simp only [hupd_none'] at hpb); (repeat rcases hpb with ⟨⟨hpx, hpy⟩, hpb⟩)) | with_reducible refine Need.intro (by first | omega | (with_reducible assumption) | (simp only [List.length_map, List.length_cons, List.length_nil]; omega) | (refine ⟨?_, ?_⟩ <;> omega) | (refine ⟨?_, ?_, ?_⟩ <;> omega) | (simp; done) | (simp; omega)) ?_ | (with_reducible refine condA_dec _ _ _ (fun h => ?_) (fun h => ?_) <;> try (exfalso; omega)) | (with_reducible refine condA_beq _ _ _ _ (fun h => ?_) (fun h => ?_) <;> try (exfalso; omega)) | (with_reducible refine condA_bne _ _ _ _ (fun h => ?_) (fun h => ?_) <;> try (exfalso; omega)) | (with_reducible refine condA_nt _ _ _ (fun h => ?_) (fun h => ?_) <;> try (exfalso; omega)) | (with_reducible refine condA_bool _ _ _ (fun h => ?_) (fun h => ?_) <;> try (exfalso; omega)) | (with_reducible refine gV_dec _ _ _ _ (fun h => ?_) (fun h => ?_) <;> try (exfalso; omega)) | (with_reducible refine gV_beq _ _ _ _ _ (fun h => ?_) (fun h => ?_) <;> try (exfalso; omega)) | (with_reducible refine gV_bne _ _ _ _ _ (fun h => ?_) (fun h => ?_) <;> try (exfalso; omega)) | (with_reducible refine gV_true _ _ _ (fun h => ?_) (fun h => ?_) <;> try (exfalso; omega)) | (with_reducible refine gV_false _ _ _ (fun h => ?_) (fun h => ?_) <;> try (exfalso; omega)) | with_reducible refine awp_drawnA mixed (by decide +kernel) ?_ | ((fail_if_success with_reducible refine isCall ?_); (fail_if_success with_reducible refine isAWP ?_); (fail_if_success with_reducible refine isPart ?_); (fail_if_success with_reducible refine isAgain ?_); simp -implicitDefEqProofs only [go_sem, Nat.reduceEqDiff, Nat.reduceAdd, Nat.reduceLT, Nat.reduceMul, Nat.reduceSub, Nat.reduceLeDiff, ↓reduceIte, reduceCtorEq, ↓String.reduceEq, String.reduceNe, Int.reduceToNat, Int.reduceLT, Int.reduceLE, Int.reduceGT, Int.reduceGE, Int.reduceEq, Int.reduceNe, Int.reduceBEq, Int.reduceBNe, Int.reduceAdd, Int.reduceSub, Int.reduceMul, Int.reduceNeg, Int.toNat_natCast, Int.toNat_zero, Int.cast_ofNat_Int, Nat.mul_one, Nat.zero_mul, Nat.reduceEqDiff, Int.le_refl, decide_true, decide_false, and_self, bne_iff_ne, beq_iff_eq, ne_eq, not_false_eq_true, not_true_eq_false,  W128, autoOrd, ordG, effs, isLook, isEff, Stab_none, exitA_ret, exitA_normal, exitA_goto, exitA_exit, ↓run_scope, ↓run_goto, ↓run_label, thenA_goto, blockA_goto, jumpA_normal, jumpA_ret, jumpA_exit, jumpA_goto, List.take_succ_cons, *]))
        refine Again.intro ⟨64 - (j + 1), by omega, _, Sub.refl _, j + 1, 2 * n + 0 + a, rfl, by omega, ?_, by simp [upd, put, t0], by simp [upd, put, t1], by simp [upd, put, t4], by simp [upd, put, t5], by simp [upd, put], rfl⟩
        have e := hs.out
        rw [show 63 - j + 1 = 64 - j by omega] at e
        show _ = _
        rw [show 64 - (j + 1) = 63 - j by omega, e, hbit', hn.out, Nat.mul_add, Nat.mul_one, Nat.mul_left_comm]; rfl
      · rename_i hbit
        have hbit' : b / 2 ^ (63 - j) % 2 = 0 := by omega
        refine Again.intro ⟨64 - (j + 1), by omega, _, Sub.refl _, j + 1, 2 * n + 0, rfl, by omega, ?_, by simp [upd, put, t0], by simp [upd, put, t1], by simp [upd, put, t4], by simp [upd, put, t5], by simp [upd, put], rfl⟩
        have e := hs.out
        rw [show 63 - j + 1 = 64 - j by omega] at e
        show _ = _
        rw [show 64 - (j + 1) = 63 - j by omega, e, hbit', hn.out, Nat.mul_add, Nat.mul_zero, Nat.mul_left_comm]
    · obtain rfl : j = 64 := by omega
      have e := hn.out
      simp only [Nat.sub_self, Nat.pow_zero, Nat.div_one] at e
      subst e
      exact Again.intro ⟨by simp [upd, put, t4], by simp [upd, put, t5], rfl⟩
  · rintro ts m' ⟨t4, t5, rfl⟩
    repeat' (first | exact absurd ‹true = false› Bool.noConfusion | exact absurd ‹false = true› Bool.noConfusion | exact False.elim ‹False› | (with_reducible refine Al.intro ?_; intro pb hpb; (try simp only [hupd_none'] at hpb); (repeat rcases hpb with ⟨⟨hpx, hpy⟩, hpb⟩)) | with_reducible refine Need.intro (by first | omega | (with_reducible assumption) | (simp only [List.length_map, List.length_cons, List.length_nil]; omega) | (refine ⟨?_, ?_⟩ <;> omega) | (refine ⟨?_, ?_, ?_⟩ <;> omega) | (simp; done) | (simp; omega)) ?_ | (with_reducible refine condA_dec _ _ _ (fun h => ?_) (fun h => ?_) <;> try (exfalso; omega)) | (with_reducible refine condA_beq _ _ _ _ (fun h => ?_) (fun h => ?_) <;> try (exfalso; omega)) | (with_reducible refine condA_bne _ _ _ _ (fun h => ?_) (fun h => ?_) <;> try (exfalso; omega)) | (with_reducible refine condA_nt _ _ _ (fun h => ?_) (fun h => ?_) <;> try (exfalso; omega)) | (with_reducible refine condA_bool _ _ _ (fun h => ?_) (fun h => ?_) <;> try (exfalso; omega)) | (with_reducible refine gV_dec _ _ _ _ (fun h => ?_) (fun h => ?_) <;> try (exfalso; omega)) | (with_reducible refine gV_beq _ _ _ _ _ (fun h => ?_) (fun h => ?_) <;> try (exfalso; omega)) | (with_reducible refine gV_bne _ _ _ _ _ (fun h => ?_) (fun h => ?_) <;> try (exfalso; omega)) | (with_reducible refine gV_true _ _ _ (fun h => ?_) (fun h => ?_) <;> try (exfalso; omega)) | (with_reducible refine gV_false _ _ _ (fun h => ?_) (fun h => ?_) <;> try (exfalso; omega)) | with_reducible refine awp_drawnA mixed (by decide +kernel) ?_ | ((fail_if_success with_reducible refine isCall ?_); (fail_if_success with_reducible refine isAWP ?_); (fail_if_success with_reducible refine isPart ?_); (fail_if_success with_reducible refine isAgain ?_); simp -implicitDefEqProofs only [go_sem, Nat.reduceEqDiff, Nat.reduceAdd, Nat.reduceLT, Nat.reduceMul, Nat.reduceSub, Nat.reduceLeDiff, ↓reduceIte, reduceCtorEq, ↓String.reduceEq, String.reduceNe, Int.reduceToNat, Int.reduceLT, Int.reduceLE, Int.reduceGT, Int.reduceGE, Int.reduceEq, Int.reduceNe, Int.reduceBEq, Int.reduceBNe, Int.reduceAdd, Int.reduceSub, Int.reduceMul, Int.reduceNeg, Int.toNat_natCast, Int.toNat_zero, Int.cast_ofNat_Int, Nat.mul_one, Nat.zero_mul, Nat.reduceEqDiff, Int.le_refl, decide_true, decide_false, and_self, bne_iff_ne, beq_iff_eq, ne_eq, not_false_eq_true, not_true_eq_false,  mkRes, autoOrd, ordG, effs, isLook, isEff, Stab_none, exitA_ret, exitA_normal, exitA_goto, exitA_exit, ↓run_scope, ↓run_goto, ↓run_label, thenA_goto, blockA_goto, jumpA_normal, jumpA_ret, jumpA_exit, jumpA_goto, List.take_succ_cons, *]))
    exact ⟨m, (by (repeat refine Sub.fresh ?_ (by assumption)); exact Sub.refl m), rfl, rfl⟩
/-- The document's division, bit by bit: what is left, and the quotient, behind each bit. -/
theorem over_step (n d j : Nat) (hd : 0 < d) (hj : j < 128) : let x := n / 2 ^ (128 - j); let x' := n / 2 ^ (128 - (j + 1)); let bit := n / 2 ^ (127 - j) % 2;
    x' = 2 * x + bit ∧ (d ≤ 2 * (x % d) + bit → x' / d = 2 * (x / d) + 1 ∧ x' % d = 2 * (x % d) + bit - d) ∧ (2 * (x % d) + bit < d → x' / d = 2 * (x / d) ∧ x' % d = 2 * (x % d) + bit) := by
  intro x x' bit
  have e : x' = 2 * x + bit := by
    have := half_step n (127 - j)
    rw [show 127 - j + 1 = 128 - j by omega] at this
    show n / 2 ^ (128 - (j + 1)) = _
    rw [show 128 - (j + 1) = 127 - j by omega]; exact this
  have hb : bit < 2 := Nat.mod_lt _ (by decide)
  refine ⟨e, ?_⟩
  generalize x = X at *
  generalize x' = X' at *
  generalize bit = B at *
  have h1 := Nat.div_add_mod X d
  have h2 := Nat.mod_lt X hd
  generalize X / d = q at *
  generalize X % d = r at *
  have e2 : X' = d * (2 * q) + (2 * r + B) := by rw [e, ← h1, Nat.mul_add, Nat.mul_left_comm]; omega
  constructor
  · intro h
    have e3 : X' = d * (2 * q + 1) + (2 * r + B - d) := by rw [e2, Nat.mul_add]; omega
    rw [e3, Nat.mul_add_div hd, Nat.mul_add_mod, Nat.div_eq_of_lt (by omega), Nat.mod_eq_of_lt (by omega)]
    exact ⟨rfl, rfl⟩
  · intro h
    rw [e2, Nat.mul_add_div hd, Nat.mul_add_mod, Nat.div_eq_of_lt h, Nat.mod_eq_of_lt h]
    exact ⟨rfl, rfl⟩
/-- A bit of a number of 128 bits, as it is taken. -/
theorem bit_hi (n j : Nat) (hn : n < 340282366920938463463374607431768211456) (hj : j < 64) : abits .and .u64 (ashr .u64 ((n / 18446744073709551616 : Nat) : Int) (IntKind.u64.wrap (IntKind.i64.wrap (127 - (j : Int) - 64)))) 1 = ((n / 2 ^ (127 - j) % 2 : Nat) : Int) := by
  have e : IntKind.i64.wrap (127 - (j : Int) - 64) = 63 - j := by rw [wrap_i64 (by omega) (by omega)]; omega
  rw [e, bit_at _ j (by omega) hj, Nat.div_div_eq_div_mul, show (18446744073709551616 : Nat) = 2 ^ 64 from rfl, ← Nat.pow_add, show 64 + (63 - j) = 127 - j by omega]
theorem bit_lo (n j : Nat) (hj : 64 ≤ j) (hj' : j < 128) : abits .and .u64 (ashr .u64 ((n % 18446744073709551616 : Nat) : Int) (IntKind.u64.wrap (127 - (j : Int)))) 1 = ((n / 2 ^ (127 - j) % 2 : Nat) : Int) := by
  obtain ⟨i, rfl⟩ : ∃ i, j = i + 64 := ⟨j - 64, by omega⟩
  have e : (127 : Int) - ((i + 64 : Nat) : Int) = 63 - (i : Int) := by omega
  rw [e, bit_at _ i (Nat.mod_lt _ (by decide)) (by omega), show 127 - (i + 64) = 63 - i by omega]
  congr 1
  have : (18446744073709551616 : Nat) = 2 ^ (63 - i) * (2 * 2 ^ i) := by
    rw [Nat.mul_left_comm, ← Nat.pow_add, show 63 - i + i = 63 by omega]
  rw [this, Nat.mod_mul_right_div_self, Nat.mod_mul_right_mod]
end Go.Proofs.Ythdglblbdobmoaa
