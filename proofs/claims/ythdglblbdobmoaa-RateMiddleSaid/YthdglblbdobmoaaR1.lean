/- The numbers' functions: 128 bits. -/
import Derived.Test.YthdglblbdobmoaaFa
import Derived.Test.YthdglblbdobmoaaSh2
import Derived.Test.YthdglblbdobmoaaAb25
set_option linter.all false
namespace Go.Proofs.Ythdglblbdobmoaa
open Go Go.Proofs.Ythdglblbdobmoaa.Ab
open Go.Proofs (Try.prog)
set_option maxRecDepth 100000
/-- What a function answers that leaves the memory as it was. -/
def Ans (G : Nat → AVal) (f : FuncId) (args : List AVal) (v : AVal) : Prop := ∀ m, CallWP Try.prog G f args m fun v' m' => v' = v ∧ m' = m
theorem lz_spec (G : Nat → AVal) (x : Int) (h0 : 0 ≤ x) (h1 : x < 18446744073709551616) : Ans G 56 [.int .u64 x] (.int .i64 (64 - (Lib.bitLen x.toNat : Int))) := fun m =>
  CallWP.ofCalls #[.int .u64 x] (.int .i64 (64 - (Lib.bitLen x.toNat : Int))) en_56 (fun w => Try.bits_LeadingZeros64 x w h0 (by omega)) (fun w c hl hr => args_int1 hl hr) (fun w => .int _ _)
theorem len_spec (G : Nat → AVal) (x : Int) (h0 : 0 ≤ x) (h1 : x < 18446744073709551616) : Ans G 42 [.int .u64 x] (.int .i64 (Lib.bitLen x.toNat : Int)) := fun m =>
  CallWP.ofCalls #[.int .u64 x] (.int .i64 (Lib.bitLen x.toNat : Int)) en_42 (fun w => Try.bits_Len x w h0 (by omega)) (fun w c hl hr => args_int1 hl hr) (fun w => .int _ _)
theorem mul64_spec (G : Nat → AVal) (x y : Nat) (h0 : x < 18446744073709551616) (h1 : y < 18446744073709551616) : Ans G 31 [.int .u64 x, .int .u64 y] (.tuple [.int .u64 ((x * y / 18446744073709551616 : Nat) : Int), .int .u64 ((x * y % 18446744073709551616 : Nat) : Int)]) := fun m =>
  CallWP.ofCalls #[.int .u64 x, .int .u64 y] (.tuple #[.int .u64 ((x * y / 18446744073709551616 : Nat) : Int), .int .u64 ((x * y % 18446744073709551616 : Nat) : Int)]) en_31 (fun w => Try.bits_Mul64 x y h0 h1 w) (fun w c hl hr => args_int2 hl hr)
    (fun w => .tuple _ _ rfl (fun i hi => by match i with
      | 0 => exact .int _ _
      | 1 => exact .int _ _))
theorem add64_spec (G : Nat → AVal) (x y c : Int) (hx : 0 ≤ x) (hy : 0 ≤ y) (hc0 : 0 ≤ c) (hc : c ≤ 1) : Ans G 34 [.int .u64 x, .int .u64 y, .int .u64 c] (.tuple [.int .u64 ((x + y + c) % 18446744073709551616), .int .u64 ((x + y + c) / 18446744073709551616)]) := fun m =>
  add64_wp Try.func34 (by kernel_rfl) rfl (by kernel_rfl) (by kernel_rfl) x y c hx hy hc0 hc m
/-- A number without its sign. -/
def absN (a : Int) : Int := if a < 0 then -a else a
theorem size_spec (G : Nat → AVal) (a : Int) (h : -9223372036854775808 ≤ a) (h' : a < 9223372036854775808) : Ans G 32 [.int .i64 a] (.int .u64 (absN a)) := by
  intro m
  refine callWP_body Try.func32 rfl (N := 8) rfl (rs := [.tmp 2]) rfl en_32 (of_decide_eq_true rfl) ?_
  repeat' (first | exact absurd ‹true = false› Bool.noConfusion | exact absurd ‹false = true› Bool.noConfusion | exact False.elim ‹False› | (with_reducible refine Al.intro ?_; intro pb hpb; (try simp only [hupd_none'] at hpb); (repeat rcases hpb with ⟨⟨hpx, hpy⟩, hpb⟩)) | with_reducible refine Need.intro (by first | omega | (with_reducible assumption) | (simp only [List.length_map, List.length_cons, List.length_nil]; omega) | (refine ⟨?_, ?_⟩ <;> omega) | (refine ⟨?_, ?_, ?_⟩ <;> omega) | (simp; done) | (simp; omega)) ?_ | (with_reducible refine condA_dec _ _ _ (fun h => ?_) (fun h => ?_) <;> try (exfalso; omega)) | (with_reducible refine condA_beq _ _ _ _ (fun h => ?_) (fun h => ?_) <;> try (exfalso; omega)) | (with_reducible refine condA_bne _ _ _ _ (fun h => ?_) (fun h => ?_) <;> try (exfalso; omega)) | (with_reducible refine condA_nt _ _ _ (fun h => ?_) (fun h => ?_) <;> try (exfalso; omega)) | (with_reducible refine condA_bool _ _ _ (fun h => ?_) (fun h => ?_) <;> try (exfalso; omega)) | (with_reducible refine gV_dec _ _ _ _ (fun h => ?_) (fun h => ?_) <;> try (exfalso; omega)) | (with_reducible refine gV_beq _ _ _ _ _ (fun h => ?_) (fun h => ?_) <;> try (exfalso; omega)) | (with_reducible refine gV_bne _ _ _ _ _ (fun h => ?_) (fun h => ?_) <;> try (exfalso; omega)) | (with_reducible refine gV_true _ _ _ (fun h => ?_) (fun h => ?_) <;> try (exfalso; omega)) | (with_reducible refine gV_false _ _ _ (fun h => ?_) (fun h => ?_) <;> try (exfalso; omega)) | with_reducible refine awp_drawnA mixed (by decide +kernel) ?_ | ((fail_if_success with_reducible refine isCall ?_); (fail_if_success with_reducible refine isAWP ?_); (fail_if_success with_reducible refine isPart ?_); (fail_if_success with_reducible refine isAgain ?_); simp -implicitDefEqProofs only [go_sem, Nat.reduceEqDiff, Nat.reduceAdd, Nat.reduceLT, Nat.reduceMul, Nat.reduceSub, Nat.reduceLeDiff, ↓reduceIte, reduceCtorEq, ↓String.reduceEq, String.reduceNe, Int.reduceToNat, Int.reduceLT, Int.reduceLE, Int.reduceGT, Int.reduceGE, Int.reduceEq, Int.reduceNe, Int.reduceBEq, Int.reduceBNe, Int.reduceAdd, Int.reduceSub, Int.reduceMul, Int.reduceNeg, Int.toNat_natCast, Int.toNat_zero, Int.cast_ofNat_Int, Nat.mul_one, Nat.zero_mul, Nat.reduceEqDiff, Int.le_refl, decide_true, decide_false, and_self, bne_iff_ne, beq_iff_eq, ne_eq, not_false_eq_true, not_true_eq_false,  mkRes, autoOrd, ordG, effs, isLook, isEff, Stab_none, exitA_ret, exitA_normal, exitA_goto, exitA_exit, ↓run_scope, ↓run_goto, ↓run_label, thenA_goto, blockA_goto, jumpA_normal, jumpA_ret, jumpA_exit, jumpA_goto, List.take_succ_cons, *]))
  refine ⟨m, (by (repeat refine Sub.fresh ?_ (by assumption)); exact Sub.refl m), ?_, rfl⟩
  congr 1
  rw [wrap_u64]
  unfold imx absN
  by_cases h0 : a = -9223372036854775808
  · subst h0; decide
  · rw [wrap_i64 (x := 0 - a) (by omega) (by omega)]
    split <;> split <;> omega
theorem rsize_spec (G : Nat → AVal) (a : Int) (h : -9223372036854775808 ≤ a) (h' : a < 9223372036854775808) : Ans G 38 [.int .i64 a] (.int .u64 (absN a)) := by
  intro m
  refine callWP_body Try.func38 rfl (N := 10) rfl (rs := [.tmp 2]) rfl en_38 (of_decide_eq_true rfl) ?_
  repeat' (first | exact absurd ‹true = false› Bool.noConfusion | exact absurd ‹false = true› Bool.noConfusion | exact False.elim ‹False› | (with_reducible refine Al.intro ?_; intro pb hpb; (try simp only [hupd_none'] at hpb); (repeat rcases hpb with ⟨⟨hpx, hpy⟩, hpb⟩)) | with_reducible refine Need.intro (by first | omega | (with_reducible assumption) | (simp only [List.length_map, List.length_cons, List.length_nil]; omega) | (refine ⟨?_, ?_⟩ <;> omega) | (refine ⟨?_, ?_, ?_⟩ <;> omega) | (simp; done) | (simp; omega)) ?_ | (with_reducible refine condA_dec _ _ _ (fun h => ?_) (fun h => ?_) <;> try (exfalso; omega)) | (with_reducible refine condA_beq _ _ _ _ (fun h => ?_) (fun h => ?_) <;> try (exfalso; omega)) | (with_reducible refine condA_bne _ _ _ _ (fun h => ?_) (fun h => ?_) <;> try (exfalso; omega)) | (with_reducible refine condA_nt _ _ _ (fun h => ?_) (fun h => ?_) <;> try (exfalso; omega)) | (with_reducible refine condA_bool _ _ _ (fun h => ?_) (fun h => ?_) <;> try (exfalso; omega)) | (with_reducible refine gV_dec _ _ _ _ (fun h => ?_) (fun h => ?_) <;> try (exfalso; omega)) | (with_reducible refine gV_beq _ _ _ _ _ (fun h => ?_) (fun h => ?_) <;> try (exfalso; omega)) | (with_reducible refine gV_bne _ _ _ _ _ (fun h => ?_) (fun h => ?_) <;> try (exfalso; omega)) | (with_reducible refine gV_true _ _ _ (fun h => ?_) (fun h => ?_) <;> try (exfalso; omega)) | (with_reducible refine gV_false _ _ _ (fun h => ?_) (fun h => ?_) <;> try (exfalso; omega)) | with_reducible refine awp_drawnA mixed (by decide +kernel) ?_ | ((fail_if_success with_reducible refine isCall ?_); (fail_if_success with_reducible refine isAWP ?_); (fail_if_success with_reducible refine isPart ?_); (fail_if_success with_reducible refine isAgain ?_); simp -implicitDefEqProofs only [go_sem, Nat.reduceEqDiff, Nat.reduceAdd, Nat.reduceLT, Nat.reduceMul, Nat.reduceSub, Nat.reduceLeDiff, ↓reduceIte, reduceCtorEq, ↓String.reduceEq, String.reduceNe, Int.reduceToNat, Int.reduceLT, Int.reduceLE, Int.reduceGT, Int.reduceGE, Int.reduceEq, Int.reduceNe, Int.reduceBEq, Int.reduceBNe, Int.reduceAdd, Int.reduceSub, Int.reduceMul, Int.reduceNeg, Int.toNat_natCast, Int.toNat_zero, Int.cast_ofNat_Int, Nat.mul_one, Nat.zero_mul, Nat.reduceEqDiff, Int.le_refl, decide_true, decide_false, and_self, bne_iff_ne, beq_iff_eq, ne_eq, not_false_eq_true, not_true_eq_false,  mkRes, autoOrd, ordG, effs, isLook, isEff, Stab_none, exitA_ret, exitA_normal, exitA_goto, exitA_exit, ↓run_scope, ↓run_goto, ↓run_label, thenA_goto, blockA_goto, jumpA_normal, jumpA_ret, jumpA_exit, jumpA_goto, List.take_succ_cons, *]))
  all_goals refine ⟨m, (by (repeat refine Sub.fresh ?_ (by assumption)); exact Sub.refl m), ?_, rfl⟩
  all_goals congr 1
  all_goals unfold absN
  all_goals simp only [wrap_u64]
  all_goals split <;> omega
end Go.Proofs.Ythdglblbdobmoaa
