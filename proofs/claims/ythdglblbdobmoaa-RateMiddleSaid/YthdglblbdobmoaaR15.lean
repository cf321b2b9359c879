/- Samples of a clock that goes just as the count, or a little otherwise. -/
import Derived.Test.YthdglblbdobmoaaR14
set_option linter.all false
namespace Go.Proofs.Ythdglblbdobmoaa
open Go Go.Proofs.Ythdglblbdobmoaa.Ab
open Go.Proofs (Try.prog)
set_option maxRecDepth 100000
theorem scale_exact (T H q : Nat) (hT : T < 9223372036854775808) (h : T * 1048576 = q * H) (h0 : 0 < H) (hq : q ≤ 9223372036854775807) : scaleF T 1048576 H = ((q : Int), true) := by
  unfold scaleF
  rw [if_neg (by omega)]
  have e1 : (absN (T : Int)).toNat = T := by unfold absN; rw [if_neg (by omega)]; omega
  have e2 : (absN 1048576).toNat = 1048576 := by decide
  have e3 : (decide ((T : Int) < 0) != decide ((1048576 : Int) < 0)) = false := by
    have : ¬ (T : Int) < 0 := by omega
    simp [this]
  simp only [e1, e2, e3, h, Int.toNat_natCast]
  rw [if_neg (fun x => by cases x.1), Nat.mul_div_cancel _ h0]
  rw [signedF_ok q false (.inl hq)]; rfl
theorem rate_exact (a : S2) (T H q : Nat) (most : Int) (h0 : 0 < H) (hT : 0 < T) (hT' : T < 9223372036854775808) (hH' : H < 9223372036854775808) (h : T * 1048576 = q * H) (hq : q ≤ 9223372036854775807) (hm : 0 ≤ most ∧ most ≤ 4096) (hc : 1048576 - most ≤ q ∧ (q : Int) ≤ 1048576 + most) :
    rateF a (a.1 + T, a.2 + H) most = ((q : Int), true) := by
  have e1 : subF (a.1 + T) a.1 = ((T : Int), true) := by unfold subF; rw [show a.1 + (T : Int) - a.1 = T by omega, if_pos (by omega)]
  have e2 : subF (a.2 + H) a.2 = ((H : Int), true) := by unfold subF; rw [show a.2 + (H : Int) - a.2 = H by omega, if_pos (by omega)]
  have e3 := scale_exact T H q hT' h h0 hq
  rw [rateF_5 _ _ _ hm (by rw [e1]; exact ⟨rfl, by simp only; omega⟩) (by rw [e2]; exact ⟨rfl, by simp only; omega⟩) (by rw [e1, e2, e3]), e1, e2, e3]
  simp only [clampF]
  rw [if_neg (by omega), if_neg (by omega)]
set_option maxHeartbeats 400000 in
theorem rateTells_spec (G : Nat → AVal) (start d b : Int) (hd : 0 ≤ d ∧ d ≤ 4294967295) (hb : -32768 ≤ b ∧ b ≤ 32767) : Ans G 6 [.int .i64 start, .int .u32 d, .int .i16 b] (.bool true) := by
  intro m
  refine callWP_body Try.func6 rfl (N := 81) rfl (rs := [.tmp 6]) rfl en_6 (of_decide_eq_true rfl) ?_
  have s1 := Int.tmod_lt_of_pos start (b := 1125899906842624) (by decide)
  have s1' := Int.lt_tmod_of_pos start (b := 1125899906842624) (by decide)
  have s2 := Int.tmod_lt_of_pos start (b := 1099511627776) (by decide)
  have s2' := Int.lt_tmod_of_pos start (b := 1099511627776) (by decide)
  have sB := Int.tmod_lt_of_pos b (b := 4097) (by decide)
  have sB' := Int.lt_tmod_of_pos b (b := 4097) (by decide)
  obtain ⟨X, eX⟩ : ∃ X, X = start.tmod 1125899906842624 := ⟨_, rfl⟩
  obtain ⟨Y, eY⟩ : ∃ Y, Y = start.tmod 1099511627776 := ⟨_, rfl⟩
  obtain ⟨B, eB⟩ : ∃ B, B = b.tmod 4097 := ⟨_, rfl⟩
  rw [← eX] at s1 s1'
  rw [← eY] at s2 s2'
  rw [← eB] at sB sB'
  have c0 : IntKind.i64.wrap b = b := wrap_i64 (by omega) (by omega)
  obtain ⟨n, hn⟩ : ∃ n : Nat, (n : Int) = d + 1 := ⟨(d + 1).toNat, by omega⟩
  have c1 : IntKind.i64.wrap d = d := wrap_i64 (by omega) (by omega)
  have c2 : IntKind.i64.wrap (d + 1) = n := by rw [wrap_i64 (by omega) (by omega)]; omega
  obtain ⟨P, eP⟩ : ∃ P, P = (n : Int) * B := ⟨_, rfl⟩
  have p1 : P ≤ (n : Int) * 4096 := by rw [eP]; exact Int.mul_le_mul_of_nonneg_left (by omega) (by omega)
  have p2 : (n : Int) * (-4096) ≤ P := by rw [eP]; exact Int.mul_le_mul_of_nonneg_left (by omega) (by omega)
  have w1 : IntKind.i64.wrap (X + n) = X + n := wrap_i64 (by omega) (by omega)
  have w2 : IntKind.i64.wrap (Y + n) = Y + n := wrap_i64 (by omega) (by omega)
  have e3 : ashl .i64 (n : Int) 20 = ((n * 1048576 : Nat) : Int) := by
    have : ashl .i64 (n : Int) 20 = IntKind.i64.wrap ((n : Int) * 1048576) := rfl
    rw [this, wrap_i64 (by omega) (by omega)]; omega
  have w3 : IntKind.i64.wrap (X + ((n * 1048576 : Nat) : Int)) = X + ((n * 1048576 : Nat) : Int) := wrap_i64 (by omega) (by omega)
  have w4 : IntKind.i64.wrap ((n : Int) * B) = P := by rw [← eP]; exact wrap_i64 (by omega) (by omega)
  obtain ⟨K, eK⟩ : ∃ K : Nat, (K : Int) = 1048576 + B := ⟨(1048576 + B).toNat, by omega⟩
  have nK : ((n * K : Nat) : Int) = ((n * 1048576 : Nat) : Int) + P := by
    rw [eP, Int.natCast_mul, eK, Int.mul_add, Int.natCast_mul]; rfl
  have w5 : IntKind.i64.wrap (X + ((n * 1048576 : Nat) : Int) + P) = X + ((n * K : Nat) : Int) := by rw [wrap_i64 (by omega) (by omega)]; omega
  have w6 : IntKind.i64.wrap (Y + ((n * 1048576 : Nat) : Int)) = Y + ((n * 1048576 : Nat) : Int) := wrap_i64 (by omega) (by omega)
  have w7 : IntKind.i64.wrap (1048576 + B) = K := by rw [wrap_i64 (by omega) (by omega)]; omega
  have q1 := rate_exact (X, Y) n n 1048576 0 (by omega) (by omega) (by omega) (by omega) (Nat.mul_comm _ _) (by decide) (by decide) (by decide)
  have q2 := rate_exact (X, Y) (n * K) (n * 1048576) K 4096 (by omega) (Nat.mul_pos (by omega) (by omega)) (by omega) (by omega) (by rw [Nat.mul_assoc, Nat.mul_left_comm]) (by omega) (by decide) (by omega)
  have z1 := eX.symm; have z2 := eY.symm; have z3 := eB.symm
  have IX : I64 X := by constructor <;> omega
  have IY : I64 Y := by constructor <;> omega
  have I1 : I64 (X + n) := by constructor <;> omega
  have I2 : I64 (Y + n) := by constructor <;> omega
  have I3 : I64 (X + ((n * K : Nat) : Int)) := by constructor <;> omega
  have I4 : I64 (Y + ((n * 1048576 : Nat) : Int)) := by constructor <;> omega
  have I0 : I64 0 := ⟨by decide, by decide⟩
  have I5 : I64 4096 := ⟨by decide, by decide⟩
  have o1 := Hid.mk (fun m => of_spec G (X, Y) (X + n, Y + n) 0 IX IY I1 I2 I0 m)
  have o2 := Hid.mk (fun m => of_spec G (X, Y) (X + ((n * K : Nat) : Int), Y + ((n * 1048576 : Nat) : Int)) 4096 IX IY I3 I4 I5 m)
  simp only at q1 q2
  rw [q1] at o1
  rw [q2] at o2
  clear q1 q2 IX IY I1 I2 I3 I4 I0 I5 eX eY eB eK nK eP p1 p2 hn
  repeat' (first | exact absurd ‹true = false› Bool.noConfusion | exact absurd ‹false = true› Bool.noConfusion | exact False.elim ‹False› | (with_reducible refine Al.intro ?_; intro pb hpb; (try simp only [hupd_none'] at hpb); (repeat rcases hpb with ⟨⟨hpx, hpy⟩, hpb⟩)) | with_reducible refine Need.intro (by first | omega | (with_reducible assumption) | (simp only [List.length_map, List.length_cons, List.length_nil]; omega) | (refine ⟨?_, ?_⟩ <;> omega) | (refine ⟨?_, ?_, ?_⟩ <;> omega) | (simp; done) | (simp; omega)) ?_ | (with_reducible refine condA_dec _ _ _ (fun h => ?_) (fun h => ?_) <;> try (exfalso; omega)) | (with_reducible refine condA_beq _ _ _ _ (fun h => ?_) (fun h => ?_) <;> try (exfalso; omega)) | (with_reducible refine condA_bne _ _ _ _ (fun h => ?_) (fun h => ?_) <;> try (exfalso; omega)) | (with_reducible refine condA_nt _ _ _ (fun h => ?_) (fun h => ?_) <;> try (exfalso; omega)) | (with_reducible refine condA_bool _ _ _ (fun h => ?_) (fun h => ?_) <;> try (exfalso; omega)) | (with_reducible refine gV_dec _ _ _ _ (fun h => ?_) (fun h => ?_) <;> try (exfalso; omega)) | (with_reducible refine gV_beq _ _ _ _ _ (fun h => ?_) (fun h => ?_) <;> try (exfalso; omega)) | (with_reducible refine gV_bne _ _ _ _ _ (fun h => ?_) (fun h => ?_) <;> try (exfalso; omega)) | (with_reducible refine gV_true _ _ _ (fun h => ?_) (fun h => ?_) <;> try (exfalso; omega)) | (with_reducible refine gV_false _ _ _ (fun h => ?_) (fun h => ?_) <;> try (exfalso; omega)) | with_reducible refine quiet_and ?_ ?_ | with_reducible refine awp_drawnA mixed (by decide +kernel) ?_ | ((fail_if_success with_reducible refine isCall ?_); (fail_if_success with_reducible refine isAWP ?_); (fail_if_success with_reducible refine isPart ?_); (fail_if_success with_reducible refine isAgain ?_); (fail_if_success with_reducible refine isApp ?_); (fail_if_success with_reducible refine isQuiet ?_); simp -implicitDefEqProofs only [go_sem, Nat.reduceEqDiff, Nat.reduceAdd, Nat.reduceLT, Nat.reduceMul, Nat.reduceSub, Nat.reduceLeDiff, ↓reduceIte, reduceCtorEq, ↓String.reduceEq, String.reduceNe, Int.reduceToNat, Int.reduceLT, Int.reduceLE, Int.reduceGT, Int.reduceGE, Int.reduceEq, Int.reduceNe, Int.reduceBEq, Int.reduceBNe, Int.reduceAdd, Int.reduceSub, Int.reduceMul, Int.reduceNeg, Int.toNat_natCast, Int.toNat_zero, Int.cast_ofNat_Int, Nat.mul_one, Nat.zero_mul, Nat.reduceEqDiff, Int.le_refl, decide_true, decide_false, and_self, bne_iff_ne, beq_iff_eq, ne_eq, not_false_eq_true, not_true_eq_false,  mkRes, anil, abound, Option.isSome_some, Option.isSome_none, Nat.sub_zero, run_eff, rep_0, rep_1, rep_2, rep_3, autoOrd, ordG, effs, isLook, isEff, Stab_none, exitA_ret, exitA_normal, exitA_goto, exitA_exit, ↓run_scope, ↓run_goto, ↓run_label, thenA_goto, blockA_goto, jumpA_normal, jumpA_ret, jumpA_exit, jumpA_goto, List.take_succ_cons, *]))
  refine CallWP.to (o1.out _) ?_
  repeat' (first | exact absurd ‹true = false› Bool.noConfusion | exact absurd ‹false = true› Bool.noConfusion | exact False.elim ‹False› | (with_reducible refine Al.intro ?_; intro pb hpb; (try simp only [hupd_none'] at hpb); (repeat rcases hpb with ⟨⟨hpx, hpy⟩, hpb⟩)) | with_reducible refine Need.intro (by first | omega | (with_reducible assumption) | (simp only [List.length_map, List.length_cons, List.length_nil]; omega) | (refine ⟨?_, ?_⟩ <;> omega) | (refine ⟨?_, ?_, ?_⟩ <;> omega) | (simp; done) | (simp; omega)) ?_ | (with_reducible refine condA_dec _ _ _ (fun h => ?_) (fun h => ?_) <;> try (exfalso; omega)) | (with_reducible refine condA_beq _ _ _ _ (fun h => ?_) (fun h => ?_) <;> try (exfalso; omega)) | (with_reducible refine condA_bne _ _ _ _ (fun h => ?_) (fun h => ?_) <;> try (exfalso; omega)) | (with_reducible refine condA_nt _ _ _ (fun h => ?_) (fun h => ?_) <;> try (exfalso; omega)) | (with_reducible refine condA_bool _ _ _ (fun h => ?_) (fun h => ?_) <;> try (exfalso; omega)) | (with_reducible refine gV_dec _ _ _ _ (fun h => ?_) (fun h => ?_) <;> try (exfalso; omega)) | (with_reducible refine gV_beq _ _ _ _ _ (fun h => ?_) (fun h => ?_) <;> try (exfalso; omega)) | (with_reducible refine gV_bne _ _ _ _ _ (fun h => ?_) (fun h => ?_) <;> try (exfalso; omega)) | (with_reducible refine gV_true _ _ _ (fun h => ?_) (fun h => ?_) <;> try (exfalso; omega)) | (with_reducible refine gV_false _ _ _ (fun h => ?_) (fun h => ?_) <;> try (exfalso; omega)) | with_reducible refine quiet_and ?_ ?_ | with_reducible refine awp_drawnA mixed (by decide +kernel) ?_ | ((fail_if_success with_reducible refine isCall ?_); (fail_if_success with_reducible refine isAWP ?_); (fail_if_success with_reducible refine isPart ?_); (fail_if_success with_reducible refine isAgain ?_); (fail_if_success with_reducible refine isApp ?_); (fail_if_success with_reducible refine isQuiet ?_); simp -implicitDefEqProofs only [go_sem, Nat.reduceEqDiff, Nat.reduceAdd, Nat.reduceLT, Nat.reduceMul, Nat.reduceSub, Nat.reduceLeDiff, ↓reduceIte, reduceCtorEq, ↓String.reduceEq, String.reduceNe, Int.reduceToNat, Int.reduceLT, Int.reduceLE, Int.reduceGT, Int.reduceGE, Int.reduceEq, Int.reduceNe, Int.reduceBEq, Int.reduceBNe, Int.reduceAdd, Int.reduceSub, Int.reduceMul, Int.reduceNeg, Int.toNat_natCast, Int.toNat_zero, Int.cast_ofNat_Int, Nat.mul_one, Nat.zero_mul, Nat.reduceEqDiff, Int.le_refl, decide_true, decide_false, and_self, bne_iff_ne, beq_iff_eq, ne_eq, not_false_eq_true, not_true_eq_false,  pairV, anil, abound, Option.isSome_some, Option.isSome_none, Nat.sub_zero, run_eff, rep_0, rep_1, rep_2, rep_3, autoOrd, ordG, effs, isLook, isEff, Stab_none, exitA_ret, exitA_normal, exitA_goto, exitA_exit, ↓run_scope, ↓run_goto, ↓run_label, thenA_goto, blockA_goto, jumpA_normal, jumpA_ret, jumpA_exit, jumpA_goto, List.take_succ_cons, *]))
  refine CallWP.to (o2.out _) ?_
  repeat' (first | exact absurd ‹true = false› Bool.noConfusion | exact absurd ‹false = true› Bool.noConfusion | exact False.elim ‹False› | (with_reducible refine Al.intro ?_; intro pb hpb; (try simp only [hupd_none'] at hpb); (repeat rcases hpb with ⟨⟨hpx, hpy⟩, hpb⟩)) | with_reducible refine Need.intro (by first | omega | (with_reducible assumption) | (simp only [List.length_map, List.length_cons, List.length_nil]; omega) | (refine ⟨?_, ?_⟩ <;> omega) | (refine ⟨?_, ?_, ?_⟩ <;> omega) | (simp; done) | (simp; omega)) ?_ | (with_reducible refine condA_dec _ _ _ (fun h => ?_) (fun h => ?_) <;> try (exfalso; omega)) | (with_reducible refine condA_beq _ _ _ _ (fun h => ?_) (fun h => ?_) <;> try (exfalso; omega)) | (with_reducible refine condA_bne _ _ _ _ (fun h => ?_) (fun h => ?_) <;> try (exfalso; omega)) | (with_reducible refine condA_nt _ _ _ (fun h => ?_) (fun h => ?_) <;> try (exfalso; omega)) | (with_reducible refine condA_bool _ _ _ (fun h => ?_) (fun h => ?_) <;> try (exfalso; omega)) | (with_reducible refine gV_dec _ _ _ _ (fun h => ?_) (fun h => ?_) <;> try (exfalso; omega)) | (with_reducible refine gV_beq _ _ _ _ _ (fun h => ?_) (fun h => ?_) <;> try (exfalso; omega)) | (with_reducible refine gV_bne _ _ _ _ _ (fun h => ?_) (fun h => ?_) <;> try (exfalso; omega)) | (with_reducible refine gV_true _ _ _ (fun h => ?_) (fun h => ?_) <;> try (exfalso; omega)) | (with_reducible refine gV_false _ _ _ (fun h => ?_) (fun h => ?_) <;> try (exfalso; omega)) | with_reducible refine quiet_and ?_ ?_ | with_reducible refine awp_drawnA mixed (by decide +kernel) ?_ | ((fail_if_success with_reducible refine isCall ?_); (fail_if_success with_reducible refine isAWP ?_); (fail_if_success with_reducible refine isPart ?_); (fail_if_success with_reducible refine isAgain ?_); (fail_if_success with_reducible refine isApp ?_); (fail_if_success with_reducible refine isQuiet ?_); simp -implicitDefEqProofs only [go_sem, Nat.reduceEqDiff, Nat.reduceAdd, Nat.reduceLT, Nat.reduceMul, Nat.reduceSub, Nat.reduceLeDiff, ↓reduceIte, reduceCtorEq, ↓String.reduceEq, String.reduceNe, Int.reduceToNat, Int.reduceLT, Int.reduceLE, Int.reduceGT, Int.reduceGE, Int.reduceEq, Int.reduceNe, Int.reduceBEq, Int.reduceBNe, Int.reduceAdd, Int.reduceSub, Int.reduceMul, Int.reduceNeg, Int.toNat_natCast, Int.toNat_zero, Int.cast_ofNat_Int, Nat.mul_one, Nat.zero_mul, Nat.reduceEqDiff, Int.le_refl, decide_true, decide_false, and_self, bne_iff_ne, beq_iff_eq, ne_eq, not_false_eq_true, not_true_eq_false,  pairV, anil, abound, Option.isSome_some, Option.isSome_none, Nat.sub_zero, run_eff, rep_0, rep_1, rep_2, rep_3, autoOrd, ordG, effs, isLook, isEff, Stab_none, exitA_ret, exitA_normal, exitA_goto, exitA_exit, ↓run_scope, ↓run_goto, ↓run_label, thenA_goto, blockA_goto, jumpA_normal, jumpA_ret, jumpA_exit, jumpA_goto, List.take_succ_cons, *]))
  refine CallWP.to (live_spec G _) ?_
  repeat' (first | exact absurd ‹true = false› Bool.noConfusion | exact absurd ‹false = true› Bool.noConfusion | exact False.elim ‹False› | (with_reducible refine Al.intro ?_; intro pb hpb; (try simp only [hupd_none'] at hpb); (repeat rcases hpb with ⟨⟨hpx, hpy⟩, hpb⟩)) | with_reducible refine Need.intro (by first | omega | (with_reducible assumption) | (simp only [List.length_map, List.length_cons, List.length_nil]; omega) | (refine ⟨?_, ?_⟩ <;> omega) | (refine ⟨?_, ?_, ?_⟩ <;> omega) | (simp; done) | (simp; omega)) ?_ | (with_reducible refine condA_dec _ _ _ (fun h => ?_) (fun h => ?_) <;> try (exfalso; omega)) | (with_reducible refine condA_beq _ _ _ _ (fun h => ?_) (fun h => ?_) <;> try (exfalso; omega)) | (with_reducible refine condA_bne _ _ _ _ (fun h => ?_) (fun h => ?_) <;> try (exfalso; omega)) | (with_reducible refine condA_nt _ _ _ (fun h => ?_) (fun h => ?_) <;> try (exfalso; omega)) | (with_reducible refine condA_bool _ _ _ (fun h => ?_) (fun h => ?_) <;> try (exfalso; omega)) | (with_reducible refine gV_dec _ _ _ _ (fun h => ?_) (fun h => ?_) <;> try (exfalso; omega)) | (with_reducible refine gV_beq _ _ _ _ _ (fun h => ?_) (fun h => ?_) <;> try (exfalso; omega)) | (with_reducible refine gV_bne _ _ _ _ _ (fun h => ?_) (fun h => ?_) <;> try (exfalso; omega)) | (with_reducible refine gV_true _ _ _ (fun h => ?_) (fun h => ?_) <;> try (exfalso; omega)) | (with_reducible refine gV_false _ _ _ (fun h => ?_) (fun h => ?_) <;> try (exfalso; omega)) | with_reducible refine quiet_and ?_ ?_ | with_reducible refine awp_drawnA mixed (by decide +kernel) ?_ | ((fail_if_success with_reducible refine isCall ?_); (fail_if_success with_reducible refine isAWP ?_); (fail_if_success with_reducible refine isPart ?_); (fail_if_success with_reducible refine isAgain ?_); (fail_if_success with_reducible refine isApp ?_); (fail_if_success with_reducible refine isQuiet ?_); simp -implicitDefEqProofs only [go_sem, Nat.reduceEqDiff, Nat.reduceAdd, Nat.reduceLT, Nat.reduceMul, Nat.reduceSub, Nat.reduceLeDiff, ↓reduceIte, reduceCtorEq, ↓String.reduceEq, String.reduceNe, Int.reduceToNat, Int.reduceLT, Int.reduceLE, Int.reduceGT, Int.reduceGE, Int.reduceEq, Int.reduceNe, Int.reduceBEq, Int.reduceBNe, Int.reduceAdd, Int.reduceSub, Int.reduceMul, Int.reduceNeg, Int.toNat_natCast, Int.toNat_zero, Int.cast_ofNat_Int, Nat.mul_one, Nat.zero_mul, Nat.reduceEqDiff, Int.le_refl, decide_true, decide_false, and_self, bne_iff_ne, beq_iff_eq, ne_eq, not_false_eq_true, not_true_eq_false,  pairV, anil, abound, Option.isSome_some, Option.isSome_none, Nat.sub_zero, run_eff, rep_0, rep_1, rep_2, rep_3, autoOrd, ordG, effs, isLook, isEff, Stab_none, exitA_ret, exitA_normal, exitA_goto, exitA_exit, ↓run_scope, ↓run_goto, ↓run_label, thenA_goto, blockA_goto, jumpA_normal, jumpA_ret, jumpA_exit, jumpA_goto, List.take_succ_cons, *]))
  all_goals exact ⟨m, (by (repeat refine Sub.fresh ?_ (by assumption)); exact Sub.refl m), rfl, rfl⟩
end Go.Proofs.Ythdglblbdobmoaa
