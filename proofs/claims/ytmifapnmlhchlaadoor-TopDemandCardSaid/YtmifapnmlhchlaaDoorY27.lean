/- The numbers' functions: 128 bits. The program's division, by digits of 32 bits. The rate of two samples: the program's, and the document's. -/
import Derived.Test.YtmifapnmlhchlaaDoorY24
import Derived.Test.YtmifapnmlhchlaaDoorLg7
set_option linter.all false
namespace Go.Proofs.YtmifapnmlhchlaaDoor
open Go Go.Proofs.YtmifapnmlhchlaaDoor.Ab
open Go.Proofs (Tryd.prog)
set_option maxRecDepth 100000
theorem mul64_spec (G : Nat → AVal) (x y : Nat) (h0 : x < 18446744073709551616) (h1 : y < 18446744073709551616) : Ans G 45 [.int .u64 x, .int .u64 y] (.tuple [.int .u64 ((x * y / 18446744073709551616 : Nat) : Int), .int .u64 ((x * y % 18446744073709551616 : Nat) : Int)]) := fun m =>
  CallWP.ofCalls #[.int .u64 x, .int .u64 y] (.tuple #[.int .u64 ((x * y / 18446744073709551616 : Nat) : Int), .int .u64 ((x * y % 18446744073709551616 : Nat) : Int)]) en_45 (fun w => Tryd.bits_Mul64 x y h0 h1 w) (fun w c hl hr => args_int2 hl hr)
    (fun w => .tuple _ _ rfl (fun i hi => by match i with
      | 0 => exact .int _ _
      | 1 => exact .int _ _))
theorem add64_spec (G : Nat → AVal) (x y c : Int) (hx : 0 ≤ x) (hy : 0 ≤ y) (hc0 : 0 ≤ c) (hc : c ≤ 1) : Ans G 48 [.int .u64 x, .int .u64 y, .int .u64 c] (.tuple [.int .u64 ((x + y + c) % 18446744073709551616), .int .u64 ((x + y + c) / 18446744073709551616)]) := fun m =>
  add64_wp Tryd.func48 (by kernel_rfl) rfl (by kernel_rfl) (by kernel_rfl) x y c hx hy hc0 hc m
/-- A number without its sign. -/
def absN (a : Int) : Int := if a < 0 then -a else a
theorem size_spec (G : Nat → AVal) (a : Int) (h : -9223372036854775808 ≤ a) (h' : a < 9223372036854775808) : Ans G 46 [.int .i64 a] (.int .u64 (absN a)) := by
  intro m
  refine callWP_body Tryd.func46 rfl (N := 8) rfl (rs := [.tmp 2]) rfl en_46 (of_decide_eq_true rfl) ?_
  repeat' (first | exact tf0 ‹_› | exact tf1 ‹_› | exact False.elim ‹_› | (with_reducible refine Al.intro ?_; intro pb hpb; (try simp only [hupd_none'] at hpb); (repeat rcases hpb with ⟨⟨hpx, hpy⟩, hpb⟩)) | with_reducible refine need ?_ | ((with_reducible first | refine frk0 ?_ ?_ | refine frk1 ?_ ?_ | refine frk2 ?_ ?_ | refine frk3 ?_ ?_ | refine frk4 ?_ ?_ | refine frk5 ?_ ?_ | refine frk6 ?_ ?_ | refine frk7 ?_ ?_ | refine frk8 ?_ ?_ | refine frk9 ?_ ?_) <;> intro h <;> try (exfalso; omega)) | with_reducible refine quiet_and ?_ ?_ | with_reducible refine awp_drawnA mixed (by decide +kernel) ?_ | ((fail_if_success with_reducible refine stp ?_); simp -implicitDefEqProofs only [go_sem, Nat.reduceEqDiff, Nat.reduceAdd, Nat.reduceLT, Nat.reduceMul, Nat.reduceSub, Nat.reduceLeDiff, ↓reduceIte, reduceCtorEq, ↓String.reduceEq, String.reduceNe, Int.reduceToNat, Int.reduceLT, Int.reduceLE, Int.reduceGT, Int.reduceGE, Int.reduceEq, Int.reduceNe, Int.reduceBEq, Int.reduceBNe, Int.reduceAdd, Int.reduceSub, Int.reduceMul, Int.reduceNeg,  *]))
  refine ⟨m, (by (repeat refine Sub.fresh ?_ (by assumption)); exact Sub.refl m), ?_, rfl⟩
  congr 1
  rw [wrap_u64]
  unfold imx absN
  by_cases h0 : a = -9223372036854775808
  · subst h0; decide
  · rw [wrap_i64 (x := 0 - a) (by omega) (by omega)]
    split <;> split <;> omega
theorem div64_small (G : Nat → AVal) (lo y : Nat) (hl : lo < 18446744073709551616) (h0 : 0 < y) (hy : y < 18446744073709551616) :
    Ans G 71 [.int .u64 0, .int .u64 lo, .int .u64 y] (.tuple [.int .u64 ((lo / y : Nat) : Int), .int .u64 ((lo % y : Nat) : Int)]) := by
  intro m
  have n1 : ((y : Int) == 0) = false := by simpa using (by omega : y ≠ 0)
  have n2 : ¬ (y : Int) ≤ 0 := by omega
  have n3 : ¬ (y : Int) = 0 := by omega
  refine callWP_body Tryd.func71 rfl (N := 135) rfl (rs := [.tmp 6, .tmp 7]) rfl en_71 (of_decide_eq_true rfl) ?_
  repeat' (first | exact tf0 ‹_› | exact tf1 ‹_› | exact False.elim ‹_› | (with_reducible refine Al.intro ?_; intro pb hpb; (try simp only [hupd_none'] at hpb); (repeat rcases hpb with ⟨⟨hpx, hpy⟩, hpb⟩)) | with_reducible refine need ?_ | ((with_reducible first | refine frk0 ?_ ?_ | refine frk1 ?_ ?_ | refine frk2 ?_ ?_ | refine frk3 ?_ ?_ | refine frk4 ?_ ?_ | refine frk5 ?_ ?_ | refine frk6 ?_ ?_ | refine frk7 ?_ ?_ | refine frk8 ?_ ?_ | refine frk9 ?_ ?_) <;> intro h <;> try (exfalso; omega)) | with_reducible refine quiet_and ?_ ?_ | with_reducible refine awp_drawnA mixed (by decide +kernel) ?_ | ((fail_if_success with_reducible refine stp ?_); simp -implicitDefEqProofs only [go_sem, Nat.reduceEqDiff, Nat.reduceAdd, Nat.reduceLT, Nat.reduceMul, Nat.reduceSub, Nat.reduceLeDiff, ↓reduceIte, reduceCtorEq, ↓String.reduceEq, String.reduceNe, Int.reduceToNat, Int.reduceLT, Int.reduceLE, Int.reduceGT, Int.reduceGE, Int.reduceEq, Int.reduceNe, Int.reduceBEq, Int.reduceBNe, Int.reduceAdd, Int.reduceSub, Int.reduceMul, Int.reduceNeg,  *]))
  all_goals refine ⟨m, (by (repeat refine Sub.fresh ?_ (by assumption)); exact Sub.refl m), ?_, rfl⟩
  rw [div_c lo y hl, rem_c]
end Go.Proofs.YtmifapnmlhchlaaDoor
namespace Go.Proofs.YtmifapnmlhchlaaDoor
open Go Go.Proofs.YtmifapnmlhchlaaDoor.Ab
open Go.Proofs (Tryd.prog)
set_option maxRecDepth 100000
/-- A number of 128 bits, in two halves. -/
def W128 (n : Nat) : AVal := .agg [.int .u64 ((n / 18446744073709551616 : Nat) : Int), .int .u64 ((n % 18446744073709551616 : Nat) : Int)]
theorem w128_eq {a b : Int} {n : Nat} (ha : a = ((n / 18446744073709551616 : Nat) : Int)) (hb : b = ((n % 18446744073709551616 : Nat) : Int)) : AVal.agg [.int .u64 a, .int .u64 b] = W128 n := by
  rw [ha, hb]; rfl
/-- A number's digits of 32 bits, the highest one first. -/
def DD (n : Nat) : Nat → Nat
  | 0 => n / 18446744073709551616 / 4294967296
  | 1 => n / 18446744073709551616 % 4294967296
  | 2 => n % 18446744073709551616 / 4294967296
  | _ => n % 18446744073709551616 % 4294967296
def LL (n d : Nat) : Nat → Nat
  | 0 => 0
  | i + 1 => (LL n d i * 4294967296 + DD n i) % d
def QQ (n d i : Nat) : Nat := (LL n d i * 4294967296 + DD n i) / d
theorem DD_lt (n i : Nat) (hn : n < 340282366920938463463374607431768211456) : DD n i < 4294967296 := by
  unfold DD; split <;> omega
theorem LL_lt (n d : Nat) (h : 0 < d) : ∀ i, LL n d i < d
  | 0 => h
  | i + 1 => Nat.mod_lt _ h
theorem QQ_lt (n d i : Nat) (h : 0 < d) (hn : n < 340282366920938463463374607431768211456) : QQ n d i < 4294967296 := by
  have h1 := LL_lt n d h i
  have h2 := DD_lt n i hn
  unfold QQ
  refine (Nat.div_lt_iff_lt_mul h).2 ?_
  have h3 : (LL n d i + 1) * 4294967296 ≤ d * 4294967296 := Nat.mul_le_mul_right _ h1
  rw [Nat.mul_comm d] at h3
  omega
theorem long_step (x D d : Nat) (h : 0 < d) : (x * 4294967296 + D) / d = x / d * 4294967296 + (x % d * 4294967296 + D) / d ∧ (x * 4294967296 + D) % d = (x % d * 4294967296 + D) % d := by
  have e := Nat.div_add_mod x d
  have e2 : x * 4294967296 + D = d * (x / d * 4294967296) + (x % d * 4294967296 + D) := by
    rw [← Nat.mul_assoc]
    generalize d * (x / d) = k at *
    generalize x % d = r at *
    omega
  rw [e2, Nat.mul_add_div h, Nat.mul_add_mod]
  exact ⟨rfl, rfl⟩
theorem halves (a b c e : Nat) (h0 : a < 4294967296) (h1 : b < 4294967296) (h2 : c < 4294967296) (h3 : e < 4294967296) :
    a * 4294967296 + b = (((a * 4294967296 + b) * 4294967296 + c) * 4294967296 + e) / 18446744073709551616 ∧ c * 4294967296 + e = (((a * 4294967296 + b) * 4294967296 + c) * 4294967296 + e) % 18446744073709551616 := by omega
theorem long_div (n d : Nat) (h : 0 < d) (hn : n < 340282366920938463463374607431768211456) :
    QQ n d 0 * 4294967296 + QQ n d 1 = n / d / 18446744073709551616 ∧ QQ n d 2 * 4294967296 + QQ n d 3 = n / d % 18446744073709551616 ∧ LL n d 4 = n % d := by
  have a1 := long_step 0 (DD n 0) d h
  simp only [Nat.zero_mul, Nat.zero_div, Nat.zero_mod, Nat.zero_add] at a1
  have e1 : DD n 0 / d = QQ n d 0 := by simp [QQ, LL]
  have f1 : DD n 0 % d = LL n d 1 := by simp [LL]
  have a2 := long_step (DD n 0) (DD n 1) d h
  rw [e1, f1] at a2
  have a3 := long_step (DD n 0 * 4294967296 + DD n 1) (DD n 2) d h
  rw [a2.1, a2.2] at a3
  have a4 := long_step ((DD n 0 * 4294967296 + DD n 1) * 4294967296 + DD n 2) (DD n 3) d h
  rw [a3.1, a3.2] at a4
  have hN : ((DD n 0 * 4294967296 + DD n 1) * 4294967296 + DD n 2) * 4294967296 + DD n 3 = n := by simp only [DD]; omega
  rw [hN] at a4
  have q0 := QQ_lt n d 0 h hn; have q1 := QQ_lt n d 1 h hn; have q2 := QQ_lt n d 2 h hn; have q3 := QQ_lt n d 3 h hn
  have g1 : (LL n d 1 * 4294967296 + DD n 1) / d = QQ n d 1 := rfl
  have g2 : ((LL n d 1 * 4294967296 + DD n 1) % d * 4294967296 + DD n 2) / d = QQ n d 2 := rfl
  have g3 : (((LL n d 1 * 4294967296 + DD n 1) % d * 4294967296 + DD n 2) % d * 4294967296 + DD n 3) / d = QQ n d 3 := rfl
  have g4 : (((LL n d 1 * 4294967296 + DD n 1) % d * 4294967296 + DD n 2) % d * 4294967296 + DD n 3) % d = LL n d 4 := rfl
  rw [g1, g2, g3, g4] at a4
  obtain ⟨b1, b2⟩ := a4
  rw [b1]
  exact ⟨(halves _ _ _ _ q0 q1 q2 q3).1, (halves _ _ _ _ q0 q1 q2 q3).2, b2.symm⟩
theorem sh_or (a b : Nat) (ha : a < 4294967296) (hb : b < 4294967296) : abits .or .u64 (ashl .u64 (a : Int) 32) (b : Int) = ((a * 4294967296 + b : Nat) : Int) := by
  have a1 : ashl .u64 (a : Int) 32 = ((a * 2 ^ 32 : Nat) : Int) := by
    rw [shl_u64 (by decide) (by decide)]
    have := mod_c (a * 2 ^ 32) (by omega)
    rw [← this]; simp
  rw [a1, or_disj 32 (by omega) (by omega)]
theorem sh_or' (L D : Nat) (hD : D < 4294967296) : abits .or .u64 (ashl .u64 (L : Int) 32) (D : Int) = ((L % 4294967296 * 4294967296 + D : Nat) : Int) := by
  have e : ashl .u64 (L : Int) 32 = ashl .u64 ((L % 4294967296 : Nat) : Int) 32 := by rw [shl32, shl32]; omega
  rw [e, sh_or _ _ (by omega) hD]
theorem digit_spec (G : Nat → AVal) (L D d : Nat) (hL : L < d) (hD : D < 4294967296) (hd : d ≤ 4294967296) :
    Ans G 71 [.int .u64 ((L / 4294967296 : Nat) : Int), .int .u64 ((L % 4294967296 * 4294967296 + D : Nat) : Int), .int .u64 d] (.tuple [.int .u64 (((L * 4294967296 + D) / d : Nat) : Int), .int .u64 (((L * 4294967296 + D) % d : Nat) : Int)]) := by
  have e : L / 4294967296 = 0 := by omega
  have e2 : L % 4294967296 = L := by omega
  rw [e, e2]
  exact div64_small G (L * 4294967296 + D) d (by omega) (by omega) (by omega)
def digs (n : Nat) : ABlk := .cells [.int .u64 (DD n 0 : Nat), .int .u64 (DD n 1 : Nat), .int .u64 (DD n 2 : Nat), .int .u64 (DD n 3 : Nat)] 4
def outs (n d i : Nat) : ABlk := .cells [.int .u64 ((if 0 < i then QQ n d 0 else 0 : Nat) : Int), .int .u64 ((if 1 < i then QQ n d 1 else 0 : Nat) : Int), .int .u64 ((if 2 < i then QQ n d 2 else 0 : Nat) : Int), .int .u64 ((if 3 < i then QQ n d 3 else 0 : Nat) : Int)] 4
set_option maxHeartbeats 4000000 in
theorem divided_spec (G : Nat → AVal) (n d : Nat) (hn : n < 340282366920938463463374607431768211456) (d0 : 0 < d) (d1 : d ≤ 4294967296) : Ans G 47 [W128 n, .int .u64 d] (.tuple [W128 (n / d), .bool (decide (0 < n % d))]) := by
  intro m
  refine callWP_body Tryd.func47 rfl (N := 61) rfl (rs := [.cell 4 82, .tmp 5]) rfl en_47 (of_decide_eq_true rfl) ?_
  repeat' (first | exact tf0 ‹_› | exact tf1 ‹_› | exact False.elim ‹_› | (with_reducible refine Al.intro ?_; intro pb hpb; (try simp only [hupd_none'] at hpb); (repeat rcases hpb with ⟨⟨hpx, hpy⟩, hpb⟩)) | with_reducible refine need ?_ | ((with_reducible first | refine frk0 ?_ ?_ | refine frk1 ?_ ?_ | refine frk2 ?_ ?_ | refine frk3 ?_ ?_ | refine frk4 ?_ ?_ | refine frk5 ?_ ?_ | refine frk6 ?_ ?_ | refine frk7 ?_ ?_ | refine frk8 ?_ ?_ | refine frk9 ?_ ?_) <;> intro h <;> try (exfalso; omega)) | with_reducible refine quiet_and ?_ ?_ | with_reducible refine awp_drawnA mixed (by decide +kernel) ?_ | ((fail_if_success with_reducible refine stp ?_); simp -implicitDefEqProofs only [go_sem, Nat.reduceEqDiff, Nat.reduceAdd, Nat.reduceLT, Nat.reduceMul, Nat.reduceSub, Nat.reduceLeDiff, ↓reduceIte, reduceCtorEq, ↓String.reduceEq, String.reduceNe, Int.reduceToNat, Int.reduceLT, Int.reduceLE, Int.reduceGT, Int.reduceGE, Int.reduceEq, Int.reduceNe, Int.reduceBEq, Int.reduceBNe, Int.reduceAdd, Int.reduceSub, Int.reduceMul, Int.reduceNeg,  W128, *]))
  have g0 : ashr .u64 ((n / 18446744073709551616 : Nat) : Int) 32 = ((DD n 0 : Nat) : Int) := by rw [shr32 (by omega)]; simp [DD]
  have g1 : abits .and .u64 ((n / 18446744073709551616 : Nat) : Int) 4294967295 = ((DD n 1 : Nat) : Int) := by rw [low32 (by omega) (by omega)]; simp [DD]
  have g2 : ashr .u64 ((n % 18446744073709551616 : Nat) : Int) 32 = ((DD n 2 : Nat) : Int) := by rw [shr32 (by omega)]; simp [DD]
  have g3 : abits .and .u64 ((n % 18446744073709551616 : Nat) : Int) 4294967295 = ((DD n 3 : Nat) : Int) := by rw [low32 (by omega) (by omega)]; simp [DD]
  rename_i p2 hp2
  have step : ∀ i, Ans G 71 [.int .u64 ((LL n d i / 4294967296 : Nat) : Int), .int .u64 ((LL n d i % 4294967296 * 4294967296 + DD n i : Nat) : Int), .int .u64 d] (.tuple [.int .u64 ((QQ n d i : Nat) : Int), .int .u64 ((LL n d (i + 1) : Nat) : Int)]) :=
    fun i => digit_spec G (LL n d i) (DD n i) d (LL_lt n d d0 i) (DD_lt n i hn) d1
  have f1 : ∀ i, ashr .u64 ((LL n d i : Nat) : Int) 32 = ((LL n d i / 4294967296 : Nat) : Int) := fun i => by rw [shr32 (by omega)]; omega
  have f2 : ∀ i, abits .or .u64 (ashl .u64 ((LL n d i : Nat) : Int) 32) ((DD n i : Nat) : Int) = ((LL n d i % 4294967296 * 4294967296 + DD n i : Nat) : Int) := fun i => sh_or' _ _ (DD_lt n i hn)
  obtain ⟨r1, r2, r3⟩ := long_div n d d0 hn
  have o1 := sh_or (QQ n d 0) (QQ n d 1) (QQ_lt n d 0 d0 hn) (QQ_lt n d 1 d0 hn)
  have o2 := sh_or (QQ n d 2) (QQ n d 3) (QQ_lt n d 2 d0 hn) (QQ_lt n d 3 d0 hn)
  rw [r1] at o1
  rw [r2] at o2
  have R3 := Hid.mk r3
  clear r1 r2 r3
  have w1 : IntKind.i64.wrap 1 = 1 := by decide
  have w2 : IntKind.i64.wrap 2 = 2 := by decide
  have w3 : IntKind.i64.wrap 3 = 3 := by decide
  have w4 : IntKind.i64.wrap 4 = 4 := by decide
  refine awp_scope 0 rfl (fun k ts m' => ∃ (i p6 p7 : Nat), k = 4 - i ∧ (i = 1 ∨ i = 2 ∨ i = 3 ∨ i = 4) ∧ m p6 = none ∧ m p7 = none ∧ p6 ≠ p2 ∧ p2 ≠ p6 ∧ p7 ≠ p2 ∧ p2 ≠ p7 ∧ p6 ≠ pb ∧ pb ≠ p6 ∧ p7 ≠ pb ∧ pb ≠ p7 ∧ p6 ≠ p7 ∧ p7 ≠ p6 ∧ ts 1 = .int .u64 d ∧ ts 4 = .ptr pb 0 ∧ ts 6 = .ptr p6 0 ∧ ts 7 = .ptr p7 0 ∧ ts 8 = .int .u64 ((LL n d i : Nat) : Int) ∧ ts 9 = .int .i64 i ∧
    m' = hupd (hupd (hupd (hupd m p2 (.cells [.int .u64 ((n / 18446744073709551616 : Nat) : Int), .int .u64 ((n % 18446744073709551616 : Nat) : Int)] 2)) pb (.cells [.int .u64 0, .int .u64 0] 2)) p6 (digs n)) p7 (outs n d i)) ?_ ?_
  · repeat' (first | exact tf0 ‹_› | exact tf1 ‹_› | exact False.elim ‹_› | (with_reducible refine Al.intro ?_; intro pb hpb; (try simp only [hupd_none'] at hpb); (repeat rcases hpb with ⟨⟨hpx, hpy⟩, hpb⟩)) | with_reducible refine need ?_ | ((with_reducible first | refine frk0 ?_ ?_ | refine frk1 ?_ ?_ | refine frk2 ?_ ?_ | refine frk3 ?_ ?_ | refine frk4 ?_ ?_ | refine frk5 ?_ ?_ | refine frk6 ?_ ?_ | refine frk7 ?_ ?_ | refine frk8 ?_ ?_ | refine frk9 ?_ ?_) <;> intro h <;> try (exfalso; omega)) | with_reducible refine quiet_and ?_ ?_ | with_reducible refine awp_drawnA mixed (by decide +kernel) ?_ | ((fail_if_success with_reducible refine stp ?_); simp -implicitDefEqProofs only [go_sem, Nat.reduceEqDiff, Nat.reduceAdd, Nat.reduceLT, Nat.reduceMul, Nat.reduceSub, Nat.reduceLeDiff, ↓reduceIte, reduceCtorEq, ↓String.reduceEq, String.reduceNe, Int.reduceToNat, Int.reduceLT, Int.reduceLE, Int.reduceGT, Int.reduceGE, Int.reduceEq, Int.reduceNe, Int.reduceBEq, Int.reduceBNe, Int.reduceAdd, Int.reduceSub, Int.reduceMul, Int.reduceNeg,  *]))
    rw [show ashr .u64 0 32 = _ from f1 0, show abits .or .u64 (ashl .u64 0 32) _ = _ from f2 0]
    refine CallWP.to (step 0 _) ?_
    repeat' (first | exact tf0 ‹_› | exact tf1 ‹_› | exact False.elim ‹_› | (with_reducible refine Al.intro ?_; intro pb hpb; (try simp only [hupd_none'] at hpb); (repeat rcases hpb with ⟨⟨hpx, hpy⟩, hpb⟩)) | with_reducible refine need ?_ | ((with_reducible first | refine frk0 ?_ ?_ | refine frk1 ?_ ?_ | refine frk2 ?_ ?_ | refine frk3 ?_ ?_ | refine frk4 ?_ ?_ | refine frk5 ?_ ?_ | refine frk6 ?_ ?_ | refine frk7 ?_ ?_ | refine frk8 ?_ ?_ | refine frk9 ?_ ?_) <;> intro h <;> try (exfalso; omega)) | with_reducible refine quiet_and ?_ ?_ | with_reducible refine awp_drawnA mixed (by decide +kernel) ?_ | ((fail_if_success with_reducible refine stp ?_); simp -implicitDefEqProofs only [go_sem, Nat.reduceEqDiff, Nat.reduceAdd, Nat.reduceLT, Nat.reduceMul, Nat.reduceSub, Nat.reduceLeDiff, ↓reduceIte, reduceCtorEq, ↓String.reduceEq, String.reduceNe, Int.reduceToNat, Int.reduceLT, Int.reduceLE, Int.reduceGT, Int.reduceGE, Int.reduceEq, Int.reduceNe, Int.reduceBEq, Int.reduceBNe, Int.reduceAdd, Int.reduceSub, Int.reduceMul, Int.reduceNeg,  *]))
    exact Again.intro ⟨3, _, Sub.refl _, 1, _, _, rfl, .inl rfl, by assumption, by assumption, by assumption, by assumption, by assumption, by assumption, by assumption, by assumption, by assumption, by assumption, by assumption, by assumption, ttt, ttt, ttt, ttt, ttt, ttt, rfl⟩
  · rintro k ts m' ⟨i, p6, p7, rfl, hi, z1, z2, z3, z4, z5, z6, z7, z8, z9, z10, z11, z12, t1, t4, t6, t7, t8, t9, rfl⟩
    rcases hi with rfl | rfl | rfl | rfl
    · repeat' (first | exact tf0 ‹_› | exact tf1 ‹_› | exact False.elim ‹_› | (with_reducible refine Al.intro ?_; intro pb hpb; (try simp only [hupd_none'] at hpb); (repeat rcases hpb with ⟨⟨hpx, hpy⟩, hpb⟩)) | with_reducible refine need ?_ | ((with_reducible first | refine frk0 ?_ ?_ | refine frk1 ?_ ?_ | refine frk2 ?_ ?_ | refine frk3 ?_ ?_ | refine frk4 ?_ ?_ | refine frk5 ?_ ?_ | refine frk6 ?_ ?_ | refine frk7 ?_ ?_ | refine frk8 ?_ ?_ | refine frk9 ?_ ?_) <;> intro h <;> try (exfalso; omega)) | with_reducible refine quiet_and ?_ ?_ | with_reducible refine awp_drawnA mixed (by decide +kernel) ?_ | ((fail_if_success with_reducible refine stp ?_); simp -implicitDefEqProofs only [go_sem, Nat.reduceEqDiff, Nat.reduceAdd, Nat.reduceLT, Nat.reduceMul, Nat.reduceSub, Nat.reduceLeDiff, ↓reduceIte, reduceCtorEq, ↓String.reduceEq, String.reduceNe, Int.reduceToNat, Int.reduceLT, Int.reduceLE, Int.reduceGT, Int.reduceGE, Int.reduceEq, Int.reduceNe, Int.reduceBEq, Int.reduceBNe, Int.reduceAdd, Int.reduceSub, Int.reduceMul, Int.reduceNeg,  digs, outs, *]))
      refine CallWP.to (step 1 _) ?_
      repeat' (first | exact tf0 ‹_› | exact tf1 ‹_› | exact False.elim ‹_› | (with_reducible refine Al.intro ?_; intro pb hpb; (try simp only [hupd_none'] at hpb); (repeat rcases hpb with ⟨⟨hpx, hpy⟩, hpb⟩)) | with_reducible refine need ?_ | ((with_reducible first | refine frk0 ?_ ?_ | refine frk1 ?_ ?_ | refine frk2 ?_ ?_ | refine frk3 ?_ ?_ | refine frk4 ?_ ?_ | refine frk5 ?_ ?_ | refine frk6 ?_ ?_ | refine frk7 ?_ ?_ | refine frk8 ?_ ?_ | refine frk9 ?_ ?_) <;> intro h <;> try (exfalso; omega)) | with_reducible refine quiet_and ?_ ?_ | with_reducible refine awp_drawnA mixed (by decide +kernel) ?_ | ((fail_if_success with_reducible refine stp ?_); simp -implicitDefEqProofs only [go_sem, Nat.reduceEqDiff, Nat.reduceAdd, Nat.reduceLT, Nat.reduceMul, Nat.reduceSub, Nat.reduceLeDiff, ↓reduceIte, reduceCtorEq, ↓String.reduceEq, String.reduceNe, Int.reduceToNat, Int.reduceLT, Int.reduceLE, Int.reduceGT, Int.reduceGE, Int.reduceEq, Int.reduceNe, Int.reduceBEq, Int.reduceBNe, Int.reduceAdd, Int.reduceSub, Int.reduceMul, Int.reduceNeg,  digs, outs, *]))
      exact Again.intro ⟨2, by decide, _, Sub.refl _, 2, p6, p7, rfl, by decide, z1, z2, z3, z4, z5, z6, z7, z8, z9, z10, z11, z12, (by first | (simp only [upd, put, Nat.reduceEqDiff, ↓reduceIte, t1]; done) | (simp [upd, put, t1]; done) | rfl | (simp [upd, put, t1]; rfl)), (by first | (simp only [upd, put, Nat.reduceEqDiff, ↓reduceIte, t4]; done) | (simp [upd, put, t4]; done) | rfl | (simp [upd, put, t4]; rfl)), (by first | (simp only [upd, put, Nat.reduceEqDiff, ↓reduceIte, t6]; done) | (simp [upd, put, t6]; done) | rfl | (simp [upd, put, t6]; rfl)), (by first | (simp only [upd, put, Nat.reduceEqDiff, ↓reduceIte, t7]; done) | (simp [upd, put, t7]; done) | rfl | (simp [upd, put, t7]; rfl)), ttt, ttt, rfl⟩
    · repeat' (first | exact tf0 ‹_› | exact tf1 ‹_› | exact False.elim ‹_› | (with_reducible refine Al.intro ?_; intro pb hpb; (try simp only [hupd_none'] at hpb); (repeat rcases hpb with ⟨⟨hpx, hpy⟩, hpb⟩)) | with_reducible refine need ?_ | ((with_reducible first | refine frk0 ?_ ?_ | refine frk1 ?_ ?_ | refine frk2 ?_ ?_ | refine frk3 ?_ ?_ | refine frk4 ?_ ?_ | refine frk5 ?_ ?_ | refine frk6 ?_ ?_ | refine frk7 ?_ ?_ | refine frk8 ?_ ?_ | refine frk9 ?_ ?_) <;> intro h <;> try (exfalso; omega)) | with_reducible refine quiet_and ?_ ?_ | with_reducible refine awp_drawnA mixed (by decide +kernel) ?_ | ((fail_if_success with_reducible refine stp ?_); simp -implicitDefEqProofs only [go_sem, Nat.reduceEqDiff, Nat.reduceAdd, Nat.reduceLT, Nat.reduceMul, Nat.reduceSub, Nat.reduceLeDiff, ↓reduceIte, reduceCtorEq, ↓String.reduceEq, String.reduceNe, Int.reduceToNat, Int.reduceLT, Int.reduceLE, Int.reduceGT, Int.reduceGE, Int.reduceEq, Int.reduceNe, Int.reduceBEq, Int.reduceBNe, Int.reduceAdd, Int.reduceSub, Int.reduceMul, Int.reduceNeg,  digs, outs, *]))
      refine CallWP.to (step 2 _) ?_
      repeat' (first | exact tf0 ‹_› | exact tf1 ‹_› | exact False.elim ‹_› | (with_reducible refine Al.intro ?_; intro pb hpb; (try simp only [hupd_none'] at hpb); (repeat rcases hpb with ⟨⟨hpx, hpy⟩, hpb⟩)) | with_reducible refine need ?_ | ((with_reducible first | refine frk0 ?_ ?_ | refine frk1 ?_ ?_ | refine frk2 ?_ ?_ | refine frk3 ?_ ?_ | refine frk4 ?_ ?_ | refine frk5 ?_ ?_ | refine frk6 ?_ ?_ | refine frk7 ?_ ?_ | refine frk8 ?_ ?_ | refine frk9 ?_ ?_) <;> intro h <;> try (exfalso; omega)) | with_reducible refine quiet_and ?_ ?_ | with_reducible refine awp_drawnA mixed (by decide +kernel) ?_ | ((fail_if_success with_reducible refine stp ?_); simp -implicitDefEqProofs only [go_sem, Nat.reduceEqDiff, Nat.reduceAdd, Nat.reduceLT, Nat.reduceMul, Nat.reduceSub, Nat.reduceLeDiff, ↓reduceIte, reduceCtorEq, ↓String.reduceEq, String.reduceNe, Int.reduceToNat, Int.reduceLT, Int.reduceLE, Int.reduceGT, Int.reduceGE, Int.reduceEq, Int.reduceNe, Int.reduceBEq, Int.reduceBNe, Int.reduceAdd, Int.reduceSub, Int.reduceMul, Int.reduceNeg,  digs, outs, *]))
      exact Again.intro ⟨1, by decide, _, Sub.refl _, 3, p6, p7, rfl, by decide, z1, z2, z3, z4, z5, z6, z7, z8, z9, z10, z11, z12, (by first | (simp only [upd, put, Nat.reduceEqDiff, ↓reduceIte, t1]; done) | (simp [upd, put, t1]; done) | rfl | (simp [upd, put, t1]; rfl)), (by first | (simp only [upd, put, Nat.reduceEqDiff, ↓reduceIte, t4]; done) | (simp [upd, put, t4]; done) | rfl | (simp [upd, put, t4]; rfl)), (by first | (simp only [upd, put, Nat.reduceEqDiff, ↓reduceIte, t6]; done) | (simp [upd, put, t6]; done) | rfl | (simp [upd, put, t6]; rfl)), (by first | (simp only [upd, put, Nat.reduceEqDiff, ↓reduceIte, t7]; done) | (simp [upd, put, t7]; done) | rfl | (simp [upd, put, t7]; rfl)), ttt, ttt, rfl⟩
    · repeat' (first | exact tf0 ‹_› | exact tf1 ‹_› | exact False.elim ‹_› | (with_reducible refine Al.intro ?_; intro pb hpb; (try simp only [hupd_none'] at hpb); (repeat rcases hpb with ⟨⟨hpx, hpy⟩, hpb⟩)) | with_reducible refine need ?_ | ((with_reducible first | refine frk0 ?_ ?_ | refine frk1 ?_ ?_ | refine frk2 ?_ ?_ | refine frk3 ?_ ?_ | refine frk4 ?_ ?_ | refine frk5 ?_ ?_ | refine frk6 ?_ ?_ | refine frk7 ?_ ?_ | refine frk8 ?_ ?_ | refine frk9 ?_ ?_) <;> intro h <;> try (exfalso; omega)) | with_reducible refine quiet_and ?_ ?_ | with_reducible refine awp_drawnA mixed (by decide +kernel) ?_ | ((fail_if_success with_reducible refine stp ?_); simp -implicitDefEqProofs only [go_sem, Nat.reduceEqDiff, Nat.reduceAdd, Nat.reduceLT, Nat.reduceMul, Nat.reduceSub, Nat.reduceLeDiff, ↓reduceIte, reduceCtorEq, ↓String.reduceEq, String.reduceNe, Int.reduceToNat, Int.reduceLT, Int.reduceLE, Int.reduceGT, Int.reduceGE, Int.reduceEq, Int.reduceNe, Int.reduceBEq, Int.reduceBNe, Int.reduceAdd, Int.reduceSub, Int.reduceMul, Int.reduceNeg,  digs, outs, *]))
      refine CallWP.to (step 3 _) ?_
      repeat' (first | exact tf0 ‹_› | exact tf1 ‹_› | exact False.elim ‹_› | (with_reducible refine Al.intro ?_; intro pb hpb; (try simp only [hupd_none'] at hpb); (repeat rcases hpb with ⟨⟨hpx, hpy⟩, hpb⟩)) | with_reducible refine need ?_ | ((with_reducible first | refine frk0 ?_ ?_ | refine frk1 ?_ ?_ | refine frk2 ?_ ?_ | refine frk3 ?_ ?_ | refine frk4 ?_ ?_ | refine frk5 ?_ ?_ | refine frk6 ?_ ?_ | refine frk7 ?_ ?_ | refine frk8 ?_ ?_ | refine frk9 ?_ ?_) <;> intro h <;> try (exfalso; omega)) | with_reducible refine quiet_and ?_ ?_ | with_reducible refine awp_drawnA mixed (by decide +kernel) ?_ | ((fail_if_success with_reducible refine stp ?_); simp -implicitDefEqProofs only [go_sem, Nat.reduceEqDiff, Nat.reduceAdd, Nat.reduceLT, Nat.reduceMul, Nat.reduceSub, Nat.reduceLeDiff, ↓reduceIte, reduceCtorEq, ↓String.reduceEq, String.reduceNe, Int.reduceToNat, Int.reduceLT, Int.reduceLE, Int.reduceGT, Int.reduceGE, Int.reduceEq, Int.reduceNe, Int.reduceBEq, Int.reduceBNe, Int.reduceAdd, Int.reduceSub, Int.reduceMul, Int.reduceNeg,  digs, outs, *]))
      exact Again.intro ⟨0, by decide, _, Sub.refl _, 4, p6, p7, rfl, by decide, z1, z2, z3, z4, z5, z6, z7, z8, z9, z10, z11, z12, (by first | (simp only [upd, put, Nat.reduceEqDiff, ↓reduceIte, t1]; done) | (simp [upd, put, t1]; done) | rfl | (simp [upd, put, t1]; rfl)), (by first | (simp only [upd, put, Nat.reduceEqDiff, ↓reduceIte, t4]; done) | (simp [upd, put, t4]; done) | rfl | (simp [upd, put, t4]; rfl)), (by first | (simp only [upd, put, Nat.reduceEqDiff, ↓reduceIte, t6]; done) | (simp [upd, put, t6]; done) | rfl | (simp [upd, put, t6]; rfl)), (by first | (simp only [upd, put, Nat.reduceEqDiff, ↓reduceIte, t7]; done) | (simp [upd, put, t7]; done) | rfl | (simp [upd, put, t7]; rfl)), ttt, ttt, rfl⟩
    · repeat' (first | exact tf0 ‹_› | exact tf1 ‹_› | exact False.elim ‹_› | (with_reducible refine Al.intro ?_; intro pb hpb; (try simp only [hupd_none'] at hpb); (repeat rcases hpb with ⟨⟨hpx, hpy⟩, hpb⟩)) | with_reducible refine need ?_ | ((with_reducible first | refine frk0 ?_ ?_ | refine frk1 ?_ ?_ | refine frk2 ?_ ?_ | refine frk3 ?_ ?_ | refine frk4 ?_ ?_ | refine frk5 ?_ ?_ | refine frk6 ?_ ?_ | refine frk7 ?_ ?_ | refine frk8 ?_ ?_ | refine frk9 ?_ ?_) <;> intro h <;> try (exfalso; omega)) | with_reducible refine quiet_and ?_ ?_ | with_reducible refine awp_drawnA mixed (by decide +kernel) ?_ | ((fail_if_success with_reducible refine stp ?_); simp -implicitDefEqProofs only [go_sem, Nat.reduceEqDiff, Nat.reduceAdd, Nat.reduceLT, Nat.reduceMul, Nat.reduceSub, Nat.reduceLeDiff, ↓reduceIte, reduceCtorEq, ↓String.reduceEq, String.reduceNe, Int.reduceToNat, Int.reduceLT, Int.reduceLE, Int.reduceGT, Int.reduceGE, Int.reduceEq, Int.reduceNe, Int.reduceBEq, Int.reduceBNe, Int.reduceAdd, Int.reduceSub, Int.reduceMul, Int.reduceNeg,  digs, outs, *]))
      refine ⟨m, (by (repeat refine Sub.fresh ?_ (by assumption)); exact Sub.refl m), ?_, rfl⟩
      rw [← R3.out, W128]
      have e : decide (((LL n d 4 : Nat) : Int) > 0) = decide (0 < LL n d 4) := by congr 1; simp only [eq_iff_iff]; omega
      rw [e]
end Go.Proofs.YtmifapnmlhchlaaDoor
namespace Go.Proofs.YtmifapnmlhchlaaDoor
open Go Go.Proofs.YtmifapnmlhchlaaDoor.Ab
open Go.Proofs (Tryd.prog)
set_option maxRecDepth 100000
/-- A number without its sign, given one, if it is one of 64 bits. -/
def signedF (q : Nat) (below : Bool) : Int × Bool := if (if below then 9223372036854775808 else 9223372036854775807) < q then (0, false) else (if below then -(q : Int) else q, true)
def pairV (x : Int × Bool) : AVal := .tuple [.int .i64 x.1, .bool x.2]
theorem abs_lt (a : Int) (h : -9223372036854775808 ≤ a) (h' : a < 9223372036854775808) : ∃ n : Nat, absN a = n ∧ n ≤ 9223372036854775808 := ⟨(absN a).toNat, by unfold absN; split <;> omega, by unfold absN; split <;> omega⟩
theorem neg_u (q : Nat) (h : q ≤ 9223372036854775808) : IntKind.i64.wrap (IntKind.u64.wrap (0 - (q : Int))) = -(q : Int) := by
  rw [wrap_u64]
  unfold IntKind.wrap; simp [IntKind.signed, IntKind.bits]; omega
theorem xor_ones (q : Nat) (h : q < 18446744073709551616) : abits .xor .u64 18446744073709551615 (q : Int) = 18446744073709551615 - q := by
  have h1 : abits .xor .u64 18446744073709551615 (q : Int) = IntKind.u64.wrap (((BitVec.ofInt 64 18446744073709551615 ^^^ BitVec.ofInt 64 (q : Int)).toNat : Nat) : Int) := rfl
  have h2 : BitVec.ofInt 64 18446744073709551615 = BitVec.allOnes 64 := by decide
  rw [h1, h2, BitVec.allOnes_xor, BitVec.toNat_not, bv_nat, wrap_u64]
  omega
theorem not_u (q : Nat) (h : q ≤ 9223372036854775808) : IntKind.i64.wrap (IntKind.u64.wrap (abits .xor .u64 (if IntKind.u64.signed = true then -1 else IntKind.u64.max) (q : Int) + 1)) = -(q : Int) := by
  have e0 : (if IntKind.u64.signed = true then (-1 : Int) else IntKind.u64.max) = 18446744073709551615 := by decide
  rw [e0, xor_ones q (by omega), wrap_u64]
  unfold IntKind.wrap; simp [IntKind.signed, IntKind.bits]; omega
theorem signedF_big (q : Nat) (b : Bool) (h : 9223372036854775808 < q ∨ (b = false ∧ 9223372036854775807 < q)) : signedF q b = (0, false) := by
  unfold signedF
  cases b <;> simp at h ⊢ <;> omega
theorem signedF_ok (q : Nat) (b : Bool) (h : q ≤ 9223372036854775807 ∨ (b = true ∧ q ≤ 9223372036854775808)) : signedF q b = (if b then -(q : Int) else q, true) := by
  unfold signedF
  cases b <;> simp at h ⊢ <;> omega
theorem signed_spec (G : Nat → AVal) (q : Nat) (b : Bool) (h : q < 340282366920938463463374607431768211456) : Ans G 49 [W128 q, .bool b] (pairV (signedF q b)) := by
  intro m
  refine callWP_body Tryd.func49 rfl (N := 28) rfl (rs := [.tmp 4, .tmp 5]) rfl en_49 (of_decide_eq_true rfl) ?_
  have hw : IntKind.u64.wrap 9223372036854775808 = 9223372036854775808 := by decide
  have hq : q < 18446744073709551616 → ((q % 18446744073709551616 : Nat) : Int) = q := fun h => by omega
  cases b
  all_goals repeat' (first | exact tf0 ‹_› | exact tf1 ‹_› | exact False.elim ‹_› | (with_reducible refine Al.intro ?_; intro pb hpb; (try simp only [hupd_none'] at hpb); (repeat rcases hpb with ⟨⟨hpx, hpy⟩, hpb⟩)) | with_reducible refine need ?_ | ((with_reducible first | refine frk0 ?_ ?_ | refine frk1 ?_ ?_ | refine frk2 ?_ ?_ | refine frk3 ?_ ?_ | refine frk4 ?_ ?_ | refine frk5 ?_ ?_ | refine frk6 ?_ ?_ | refine frk7 ?_ ?_ | refine frk8 ?_ ?_ | refine frk9 ?_ ?_) <;> intro h <;> try (exfalso; omega)) | with_reducible refine quiet_and ?_ ?_ | with_reducible refine awp_drawnA mixed (by decide +kernel) ?_ | ((fail_if_success with_reducible refine stp ?_); simp -implicitDefEqProofs only [go_sem, Nat.reduceEqDiff, Nat.reduceAdd, Nat.reduceLT, Nat.reduceMul, Nat.reduceSub, Nat.reduceLeDiff, ↓reduceIte, reduceCtorEq, ↓String.reduceEq, String.reduceNe, Int.reduceToNat, Int.reduceLT, Int.reduceLE, Int.reduceGT, Int.reduceGE, Int.reduceEq, Int.reduceNe, Int.reduceBEq, Int.reduceBNe, Int.reduceAdd, Int.reduceSub, Int.reduceMul, Int.reduceNeg,  W128, *]))
  all_goals refine ⟨m, (by (repeat refine Sub.fresh ?_ (by assumption)); exact Sub.refl m), ?_, rfl⟩
  · rw [signedF_big q _ (.inl (by omega))]; rfl
  · rw [signedF_big q _ (.inr ⟨rfl, by omega⟩)]; rfl
  · rw [signedF_ok q _ (.inl (by omega)), hq (by omega), wrap_i64 (by omega) (by omega)]; rfl
  · rw [signedF_big q _ (.inl (by omega))]; rfl
  · rw [signedF_big q _ (.inl (by omega))]; rfl
  · rw [signedF_ok q _ (.inr ⟨rfl, by omega⟩), hq (by omega), not_u q (by omega)]; rfl
set_option maxHeartbeats 4000000 in
/-- A quotient, rounded: up where what is below 0 leaves something. -/
def scaleF (a num den : Int) : Int × Bool :=
  if den < 1 then (0, false) else
  let p := (absN a).toNat * (absN num).toNat
  let below := decide (a < 0) != decide (num < 0)
  let q := p / den.toNat
  signedF (if below = true ∧ 0 < p % den.toNat then q + 1 else q) below
def I64 (x : Int) : Prop := -9223372036854775808 ≤ x ∧ x < 9223372036854775808
theorem abs_nat (a : Int) (h : I64 a) : absN a = ((absN a).toNat : Int) ∧ (absN a).toNat ≤ 9223372036854775808 := by
  obtain ⟨h1, h2⟩ := h
  unfold absN; split <;> omega
theorem p_lt (a num : Int) (h : I64 a) (h' : I64 num) : (absN a).toNat * (absN num).toNat ≤ 85070591730234615865843651857942052864 := by
  have := Nat.mul_le_mul (abs_nat a h).2 (abs_nat num h').2
  simpa using this
set_option maxHeartbeats 4000000 in
theorem scale_spec (G : Nat → AVal) (a num den : Int) (ha : I64 a) (hn : I64 num) (hd : I64 den) (hd4 : den ≤ 4294967296) : Ans G 33 [.int .i64 a, .int .i64 num, .int .i64 den] (pairV (scaleF a num den)) := by
  intro m
  refine callWP_body Tryd.func33 rfl (N := 58) rfl (rs := [.tmp 6, .tmp 7]) rfl en_33 (of_decide_eq_true rfl) ?_
  repeat' (first | exact tf0 ‹_› | exact tf1 ‹_› | exact False.elim ‹_› | (with_reducible refine Al.intro ?_; intro pb hpb; (try simp only [hupd_none'] at hpb); (repeat rcases hpb with ⟨⟨hpx, hpy⟩, hpb⟩)) | with_reducible refine need ?_ | ((with_reducible first | refine frk0 ?_ ?_ | refine frk1 ?_ ?_ | refine frk2 ?_ ?_ | refine frk3 ?_ ?_ | refine frk4 ?_ ?_ | refine frk5 ?_ ?_ | refine frk6 ?_ ?_ | refine frk7 ?_ ?_ | refine frk8 ?_ ?_ | refine frk9 ?_ ?_) <;> intro h <;> try (exfalso; omega)) | with_reducible refine quiet_and ?_ ?_ | with_reducible refine awp_drawnA mixed (by decide +kernel) ?_ | ((fail_if_success with_reducible refine stp ?_); simp -implicitDefEqProofs only [go_sem, Nat.reduceEqDiff, Nat.reduceAdd, Nat.reduceLT, Nat.reduceMul, Nat.reduceSub, Nat.reduceLeDiff, ↓reduceIte, reduceCtorEq, ↓String.reduceEq, String.reduceNe, Int.reduceToNat, Int.reduceLT, Int.reduceLE, Int.reduceGT, Int.reduceGE, Int.reduceEq, Int.reduceNe, Int.reduceBEq, Int.reduceBNe, Int.reduceAdd, Int.reduceSub, Int.reduceMul, Int.reduceNeg,  *]))
  · refine ⟨m, (by (repeat refine Sub.fresh ?_ (by assumption)); exact Sub.refl m), ?_, rfl⟩
    simp only [scaleF, h, if_true]; rfl
  · obtain ⟨ha1, ha2⟩ := ha; obtain ⟨hn1, hn2⟩ := hn; obtain ⟨hd1, hd2⟩ := hd
    refine CallWP.to (size_spec G a ha1 ha2 _) ?_
    repeat' (first | exact tf0 ‹_› | exact tf1 ‹_› | exact False.elim ‹_› | (with_reducible refine Al.intro ?_; intro pb hpb; (try simp only [hupd_none'] at hpb); (repeat rcases hpb with ⟨⟨hpx, hpy⟩, hpb⟩)) | with_reducible refine need ?_ | ((with_reducible first | refine frk0 ?_ ?_ | refine frk1 ?_ ?_ | refine frk2 ?_ ?_ | refine frk3 ?_ ?_ | refine frk4 ?_ ?_ | refine frk5 ?_ ?_ | refine frk6 ?_ ?_ | refine frk7 ?_ ?_ | refine frk8 ?_ ?_ | refine frk9 ?_ ?_) <;> intro h <;> try (exfalso; omega)) | with_reducible refine quiet_and ?_ ?_ | with_reducible refine awp_drawnA mixed (by decide +kernel) ?_ | ((fail_if_success with_reducible refine stp ?_); simp -implicitDefEqProofs only [go_sem, Nat.reduceEqDiff, Nat.reduceAdd, Nat.reduceLT, Nat.reduceMul, Nat.reduceSub, Nat.reduceLeDiff, ↓reduceIte, reduceCtorEq, ↓String.reduceEq, String.reduceNe, Int.reduceToNat, Int.reduceLT, Int.reduceLE, Int.reduceGT, Int.reduceGE, Int.reduceEq, Int.reduceNe, Int.reduceBEq, Int.reduceBNe, Int.reduceAdd, Int.reduceSub, Int.reduceMul, Int.reduceNeg,  *]))
    refine CallWP.to (size_spec G num hn1 hn2 _) ?_
    repeat' (first | exact tf0 ‹_› | exact tf1 ‹_› | exact False.elim ‹_› | (with_reducible refine Al.intro ?_; intro pb hpb; (try simp only [hupd_none'] at hpb); (repeat rcases hpb with ⟨⟨hpx, hpy⟩, hpb⟩)) | with_reducible refine need ?_ | ((with_reducible first | refine frk0 ?_ ?_ | refine frk1 ?_ ?_ | refine frk2 ?_ ?_ | refine frk3 ?_ ?_ | refine frk4 ?_ ?_ | refine frk5 ?_ ?_ | refine frk6 ?_ ?_ | refine frk7 ?_ ?_ | refine frk8 ?_ ?_ | refine frk9 ?_ ?_) <;> intro h <;> try (exfalso; omega)) | with_reducible refine quiet_and ?_ ?_ | with_reducible refine awp_drawnA mixed (by decide +kernel) ?_ | ((fail_if_success with_reducible refine stp ?_); simp -implicitDefEqProofs only [go_sem, Nat.reduceEqDiff, Nat.reduceAdd, Nat.reduceLT, Nat.reduceMul, Nat.reduceSub, Nat.reduceLeDiff, ↓reduceIte, reduceCtorEq, ↓String.reduceEq, String.reduceNe, Int.reduceToNat, Int.reduceLT, Int.reduceLE, Int.reduceGT, Int.reduceGE, Int.reduceEq, Int.reduceNe, Int.reduceBEq, Int.reduceBNe, Int.reduceAdd, Int.reduceSub, Int.reduceMul, Int.reduceNeg,  *]))
    obtain ⟨x1, x2⟩ := abs_nat a ⟨ha1, ha2⟩
    obtain ⟨y1, y2⟩ := abs_nat num ⟨hn1, hn2⟩
    have hp := p_lt a num ⟨ha1, ha2⟩ ⟨hn1, hn2⟩
    obtain ⟨D, rfl⟩ : ∃ D : Nat, den = D := ⟨den.toNat, by omega⟩
    obtain ⟨X, eX⟩ : ∃ X, X = (absN a).toNat := ⟨_, rfl⟩
    obtain ⟨Y, eY⟩ : ∃ Y, Y = (absN num).toNat := ⟨_, rfl⟩
    obtain ⟨p, ep⟩ : ∃ p, p = X * Y := ⟨_, rfl⟩
    obtain ⟨q, eq⟩ : ∃ q, q = p / D := ⟨_, rfl⟩
    obtain ⟨r, er⟩ : ∃ r, r = p % D := ⟨_, rfl⟩
    have hq := Nat.div_le_self p D
    rw [← eq] at hq
    obtain ⟨below, hbel⟩ : ∃ below, below = (decide (a < 0) != decide (num < 0)) := ⟨_, rfl⟩
    have hsc : scaleF a num D = signedF (if below = true ∧ 0 < r then q + 1 else q) below := by
      simp only [scaleF, h, if_false, Int.toNat_natCast, ← eX, ← eY, ← ep, ← eq, ← er, ← hbel]
    rw [hsc]
    rw [← eX] at x1 x2 hp
    rw [← eY] at y1 y2 hp
    rw [← ep] at hp
    clear hsc eX eY
    rw [x1, y1]
    refine CallWP.to (mul64_spec G X Y (by omega) (by omega) _) ?_
    have hx := xor_neg a num ha1 ha2 hn1 hn2
    have hD := wrap_c D (by omega)
    rw [← ep]
    rw [← hbel] at hx
    clear ep hbel
    repeat' (first | exact tf0 ‹_› | exact tf1 ‹_› | exact False.elim ‹_› | (with_reducible refine Al.intro ?_; intro pb hpb; (try simp only [hupd_none'] at hpb); (repeat rcases hpb with ⟨⟨hpx, hpy⟩, hpb⟩)) | with_reducible refine need ?_ | ((with_reducible first | refine frk0 ?_ ?_ | refine frk1 ?_ ?_ | refine frk2 ?_ ?_ | refine frk3 ?_ ?_ | refine frk4 ?_ ?_ | refine frk5 ?_ ?_ | refine frk6 ?_ ?_ | refine frk7 ?_ ?_ | refine frk8 ?_ ?_ | refine frk9 ?_ ?_) <;> intro h <;> try (exfalso; omega)) | with_reducible refine quiet_and ?_ ?_ | with_reducible refine awp_drawnA mixed (by decide +kernel) ?_ | ((fail_if_success with_reducible refine stp ?_); simp -implicitDefEqProofs only [go_sem, Nat.reduceEqDiff, Nat.reduceAdd, Nat.reduceLT, Nat.reduceMul, Nat.reduceSub, Nat.reduceLeDiff, ↓reduceIte, reduceCtorEq, ↓String.reduceEq, String.reduceNe, Int.reduceToNat, Int.reduceLT, Int.reduceLE, Int.reduceGT, Int.reduceGE, Int.reduceEq, Int.reduceNe, Int.reduceBEq, Int.reduceBNe, Int.reduceAdd, Int.reduceSub, Int.reduceMul, Int.reduceNeg,  *]))
    refine CallWP.to (divided_spec G p D (by omega) (by omega) (by omega) _) ?_
    rw [← eq, ← er]
    clear eq er
    repeat' (first | exact tf0 ‹_› | exact tf1 ‹_› | exact False.elim ‹_› | (with_reducible refine Al.intro ?_; intro pb hpb; (try simp only [hupd_none'] at hpb); (repeat rcases hpb with ⟨⟨hpx, hpy⟩, hpb⟩)) | with_reducible refine need ?_ | ((with_reducible first | refine frk0 ?_ ?_ | refine frk1 ?_ ?_ | refine frk2 ?_ ?_ | refine frk3 ?_ ?_ | refine frk4 ?_ ?_ | refine frk5 ?_ ?_ | refine frk6 ?_ ?_ | refine frk7 ?_ ?_ | refine frk8 ?_ ?_ | refine frk9 ?_ ?_) <;> intro h <;> try (exfalso; omega)) | with_reducible refine quiet_and ?_ ?_ | with_reducible refine awp_drawnA mixed (by decide +kernel) ?_ | ((fail_if_success with_reducible refine stp ?_); simp -implicitDefEqProofs only [go_sem, Nat.reduceEqDiff, Nat.reduceAdd, Nat.reduceLT, Nat.reduceMul, Nat.reduceSub, Nat.reduceLeDiff, ↓reduceIte, reduceCtorEq, ↓String.reduceEq, String.reduceNe, Int.reduceToNat, Int.reduceLT, Int.reduceLE, Int.reduceGT, Int.reduceGE, Int.reduceEq, Int.reduceNe, Int.reduceBEq, Int.reduceBNe, Int.reduceAdd, Int.reduceSub, Int.reduceMul, Int.reduceNeg,  W128, *]))
    · have c1 : (((q % 18446744073709551616 : Nat) : Int) + 1 + 0) % 18446744073709551616 = (((q + 1) % 18446744073709551616 : Nat) : Int) := by omega
      have c2 : IntKind.u64.wrap (((q / 18446744073709551616 : Nat) : Int) + (((q % 18446744073709551616 : Nat) : Int) + 1 + 0) / 18446744073709551616) = (((q + 1) / 18446744073709551616 : Nat) : Int) := by rw [wrap_u64]; omega
      rename_i hb1
      rw [if_pos ⟨hb1, h⟩]
      refine CallWP.to (add64_spec G ((q % 18446744073709551616 : Nat) : Int) 1 0 (by omega) (by decide) (by decide) (by decide) _) ?_
      rw [c1]
      simp only [Int.add_zero] at c2
      repeat' (first | exact tf0 ‹_› | exact tf1 ‹_› | exact False.elim ‹_› | (with_reducible refine Al.intro ?_; intro pb hpb; (try simp only [hupd_none'] at hpb); (repeat rcases hpb with ⟨⟨hpx, hpy⟩, hpb⟩)) | with_reducible refine need ?_ | ((with_reducible first | refine frk0 ?_ ?_ | refine frk1 ?_ ?_ | refine frk2 ?_ ?_ | refine frk3 ?_ ?_ | refine frk4 ?_ ?_ | refine frk5 ?_ ?_ | refine frk6 ?_ ?_ | refine frk7 ?_ ?_ | refine frk8 ?_ ?_ | refine frk9 ?_ ?_) <;> intro h <;> try (exfalso; omega)) | with_reducible refine quiet_and ?_ ?_ | with_reducible refine awp_drawnA mixed (by decide +kernel) ?_ | ((fail_if_success with_reducible refine stp ?_); simp -implicitDefEqProofs only [go_sem, Nat.reduceEqDiff, Nat.reduceAdd, Nat.reduceLT, Nat.reduceMul, Nat.reduceSub, Nat.reduceLeDiff, ↓reduceIte, reduceCtorEq, ↓String.reduceEq, String.reduceNe, Int.reduceToNat, Int.reduceLT, Int.reduceLE, Int.reduceGT, Int.reduceGE, Int.reduceEq, Int.reduceNe, Int.reduceBEq, Int.reduceBNe, Int.reduceAdd, Int.reduceSub, Int.reduceMul, Int.reduceNeg,  W128, Int.add_zero, *]))
      refine CallWP.to (signed_spec G (q + 1) _ (by omega) _) ?_
      repeat' (first | exact tf0 ‹_› | exact tf1 ‹_› | exact False.elim ‹_› | (with_reducible refine Al.intro ?_; intro pb hpb; (try simp only [hupd_none'] at hpb); (repeat rcases hpb with ⟨⟨hpx, hpy⟩, hpb⟩)) | with_reducible refine need ?_ | ((with_reducible first | refine frk0 ?_ ?_ | refine frk1 ?_ ?_ | refine frk2 ?_ ?_ | refine frk3 ?_ ?_ | refine frk4 ?_ ?_ | refine frk5 ?_ ?_ | refine frk6 ?_ ?_ | refine frk7 ?_ ?_ | refine frk8 ?_ ?_ | refine frk9 ?_ ?_) <;> intro h <;> try (exfalso; omega)) | with_reducible refine quiet_and ?_ ?_ | with_reducible refine awp_drawnA mixed (by decide +kernel) ?_ | ((fail_if_success with_reducible refine stp ?_); simp -implicitDefEqProofs only [go_sem, Nat.reduceEqDiff, Nat.reduceAdd, Nat.reduceLT, Nat.reduceMul, Nat.reduceSub, Nat.reduceLeDiff, ↓reduceIte, reduceCtorEq, ↓String.reduceEq, String.reduceNe, Int.reduceToNat, Int.reduceLT, Int.reduceLE, Int.reduceGT, Int.reduceGE, Int.reduceEq, Int.reduceNe, Int.reduceBEq, Int.reduceBNe, Int.reduceAdd, Int.reduceSub, Int.reduceMul, Int.reduceNeg,  pairV, *]))
      exact ⟨m, (by (repeat refine Sub.fresh ?_ (by assumption)); exact Sub.refl m), rfl, rfl⟩
    · rename_i hb1
      rw [if_neg (fun hh => absurd hh.2 h)]
      refine CallWP.to (signed_spec G q _ (by omega) _) ?_
      repeat' (first | exact tf0 ‹_› | exact tf1 ‹_› | exact False.elim ‹_› | (with_reducible refine Al.intro ?_; intro pb hpb; (try simp only [hupd_none'] at hpb); (repeat rcases hpb with ⟨⟨hpx, hpy⟩, hpb⟩)) | with_reducible refine need ?_ | ((with_reducible first | refine frk0 ?_ ?_ | refine frk1 ?_ ?_ | refine frk2 ?_ ?_ | refine frk3 ?_ ?_ | refine frk4 ?_ ?_ | refine frk5 ?_ ?_ | refine frk6 ?_ ?_ | refine frk7 ?_ ?_ | refine frk8 ?_ ?_ | refine frk9 ?_ ?_) <;> intro h <;> try (exfalso; omega)) | with_reducible refine quiet_and ?_ ?_ | with_reducible refine awp_drawnA mixed (by decide +kernel) ?_ | ((fail_if_success with_reducible refine stp ?_); simp -implicitDefEqProofs only [go_sem, Nat.reduceEqDiff, Nat.reduceAdd, Nat.reduceLT, Nat.reduceMul, Nat.reduceSub, Nat.reduceLeDiff, ↓reduceIte, reduceCtorEq, ↓String.reduceEq, String.reduceNe, Int.reduceToNat, Int.reduceLT, Int.reduceLE, Int.reduceGT, Int.reduceGE, Int.reduceEq, Int.reduceNe, Int.reduceBEq, Int.reduceBNe, Int.reduceAdd, Int.reduceSub, Int.reduceMul, Int.reduceNeg,  pairV, *]))
      exact ⟨m, (by (repeat refine Sub.fresh ?_ (by assumption)); exact Sub.refl m), rfl, rfl⟩
    · rw [if_neg (fun hh => by rw [h] at hh; cases hh.1)]
      refine CallWP.to (signed_spec G q _ (by omega) _) ?_
      repeat' (first | exact tf0 ‹_› | exact tf1 ‹_› | exact False.elim ‹_› | (with_reducible refine Al.intro ?_; intro pb hpb; (try simp only [hupd_none'] at hpb); (repeat rcases hpb with ⟨⟨hpx, hpy⟩, hpb⟩)) | with_reducible refine need ?_ | ((with_reducible first | refine frk0 ?_ ?_ | refine frk1 ?_ ?_ | refine frk2 ?_ ?_ | refine frk3 ?_ ?_ | refine frk4 ?_ ?_ | refine frk5 ?_ ?_ | refine frk6 ?_ ?_ | refine frk7 ?_ ?_ | refine frk8 ?_ ?_ | refine frk9 ?_ ?_) <;> intro h <;> try (exfalso; omega)) | with_reducible refine quiet_and ?_ ?_ | with_reducible refine awp_drawnA mixed (by decide +kernel) ?_ | ((fail_if_success with_reducible refine stp ?_); simp -implicitDefEqProofs only [go_sem, Nat.reduceEqDiff, Nat.reduceAdd, Nat.reduceLT, Nat.reduceMul, Nat.reduceSub, Nat.reduceLeDiff, ↓reduceIte, reduceCtorEq, ↓String.reduceEq, String.reduceNe, Int.reduceToNat, Int.reduceLT, Int.reduceLE, Int.reduceGT, Int.reduceGE, Int.reduceEq, Int.reduceNe, Int.reduceBEq, Int.reduceBNe, Int.reduceAdd, Int.reduceSub, Int.reduceMul, Int.reduceNeg,  pairV, *]))
      exact ⟨m, (by (repeat refine Sub.fresh ?_ (by assumption)); exact Sub.refl m), rfl, rfl⟩
end Go.Proofs.YtmifapnmlhchlaaDoor
