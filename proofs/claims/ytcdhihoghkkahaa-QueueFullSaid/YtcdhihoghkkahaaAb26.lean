/- Dividing 128 bits by 64, digit by digit of 32 bits: what each digit is. -/
import Derived.Test.YtcdhihoghkkahaaAb25
import Derived.Lib.BitFns
import Derived.Lib.ItoaNum
set_option linter.all false
namespace Go.Proofs.Ytcdhihoghkkahaa.Ab
open Go

theorem mod_c (n : Nat) (h : n < 18446744073709551616) : (n : Int) % 18446744073709551616 = n := by omega
theorem wrap_c (n : Nat) (h : n < 18446744073709551616) : IntKind.u64.wrap (n : Int) = n := by rw [wrap_u64]; omega
theorem div_c (a b : Nat) (ha : a < 18446744073709551616) : IntKind.u64.wrap ((a : Int).tdiv (b : Int)) = ((a / b : Nat) : Int) := by
  have e : (a : Int).tdiv (b : Int) = ((a / b : Nat) : Int) := by rw [Int.tdiv_eq_ediv_of_nonneg (by omega)]; simp
  rw [e, wrap_c _ (Nat.lt_of_le_of_lt (Nat.div_le_self a b) ha)]
theorem rem_c (a b : Nat) : (a : Int).tmod (b : Int) = ((a % b : Nat) : Int) := by
  rw [Int.tmod_eq_emod_of_nonneg (by omega)]; simp
theorem left_c (a b : Nat) (ha : a < 18446744073709551616) : IntKind.u64.wrap ((a : Int) - IntKind.u64.wrap (((a / b : Nat) : Int) * (b : Int))) = ((a % b : Nat) : Int) := by
  have e := Nat.div_add_mod a b
  have e2 : ((a / b : Nat) : Int) * (b : Int) = ((b * (a / b) : Nat) : Int) := by rw [Nat.mul_comm]; simp
  rw [e2]
  generalize b * (a / b) = k at *
  generalize a % b = r at *
  rw [wrap_c k (by omega)]
  have : (a : Int) - k = r := by omega
  rw [this, wrap_c r (by omega)]
/-- What holds of a digit on its way. -/
structure Dig (yy u d q r : Nat) : Prop where
  y0 : 9223372036854775808 ≤ yy
  y1 : yy < 18446744073709551616
  u1 : u < yy
  d1 : d < 4294967296
  eq : u = q * (yy / 4294967296) + r
  hi : (u * 4294967296 + d) / yy ≤ q
  le : q ≤ 4294967297
theorem Dig.top {yy u d q r : Nat} (h : Dig yy u d q r) : 2147483648 ≤ yy / 4294967296 ∧ yy / 4294967296 < 4294967296 ∧ yy % 4294967296 < 4294967296 ∧ yy = yy / 4294967296 * 4294967296 + yy % 4294967296 := by
  have := h.y0; have := h.y1
  omega
theorem Dig.init {yy u d : Nat} (y0 : 9223372036854775808 ≤ yy) (y1 : yy < 18446744073709551616) (u1 : u < yy) (d1 : d < 4294967296) : Dig yy u d (u / (yy / 4294967296)) (u % (yy / 4294967296)) ∧ u % (yy / 4294967296) < 4294967296 := by
  generalize hn : yy / 4294967296 = n
  have n0 : 2147483648 ≤ n := by omega
  have n1 : n < 4294967296 := by omega
  have e := Nat.div_add_mod u n
  have r1 := Nat.mod_lt u (show 0 < n by omega)
  generalize hq : u / n = q at e ⊢
  generalize hr : u % n = r at e r1 ⊢
  have e' : u = q * n + r := by rw [Nat.mul_comm]; omega
  refine ⟨⟨y0, y1, u1, d1, by rw [hn]; exact e', ?_, ?_⟩, by omega⟩
  · refine Nat.le_of_lt_succ ((Nat.div_lt_iff_lt_mul (by omega)).2 ?_)
    have h1 : u + 1 ≤ (q + 1) * n := by rw [Nat.succ_mul]; omega
    have h2 : (u + 1) * 4294967296 ≤ (q + 1) * n * 4294967296 := Nat.mul_le_mul_right _ h1
    have h3 : (q + 1) * n * 4294967296 ≤ (q + 1) * yy := by
      have h5 : n * 4294967296 ≤ yy := by rw [← hn]; exact Nat.div_mul_le_self _ _
      rw [Nat.mul_assoc]; exact Nat.mul_le_mul_left (q + 1) h5
    show u * 4294967296 + d < (q + 1) * yy
    omega
  · have h1 : q * n ≤ 4294967296 * n + 4294967295 := by omega
    by_cases h : q ≤ 4294967297
    · exact h
    · exfalso
      have : 4294967298 * n ≤ q * n := Nat.mul_le_mul_right _ (by omega)
      omega
theorem Dig.low {yy u d q r : Nat} (h : Dig yy u d q r) (hc : 4294967296 ≤ q ∨ 4294967296 * r + d < q * (yy % 4294967296)) : (u * 4294967296 + d) / yy < q := by
  obtain ⟨n0, n1, m1, ey⟩ := h.top
  rcases hc with hc | hc
  · have : (u * 4294967296 + d) / yy < 4294967296 := (Nat.div_lt_iff_lt_mul (by omega)).2 (by have := h.u1; have := h.d1; omega)
    omega
  · refine (Nat.div_lt_iff_lt_mul (by omega)).2 ?_
    have e := h.eq
    generalize yy / 4294967296 = n at *
    generalize yy % 4294967296 = k at *
    have : q * yy = q * n * 4294967296 + q * k := by rw [ey, Nat.mul_add, ← Nat.mul_assoc]
    rw [this, e, Nat.add_mul]; omega
theorem Dig.step {yy u d q r : Nat} (h : Dig yy u d q r) (hc : 4294967296 ≤ q ∨ 4294967296 * r + d < q * (yy % 4294967296)) : Dig yy u d (q - 1) (r + yy / 4294967296) ∧ 1 ≤ q := by
  have hl := h.low hc
  have hq : 1 ≤ q := Nat.lt_of_le_of_lt (Nat.zero_le _) hl
  refine ⟨⟨h.y0, h.y1, h.u1, h.d1, ?_, Nat.le_sub_one_of_lt hl, by have := h.le; omega⟩, hq⟩
  rw [h.eq]
  obtain ⟨k, rfl⟩ : ∃ k, q = k + 1 := ⟨q - 1, by omega⟩
  simp only [Nat.add_sub_cancel, Nat.succ_mul]; omega
theorem Dig.fin {yy u d q r : Nat} (h : Dig yy u d q r) (hc : q * (yy % 4294967296) ≤ 4294967296 * r + d) : q = (u * 4294967296 + d) / yy := by
  obtain ⟨n0, n1, m1, ey⟩ := h.top
  refine Nat.le_antisymm ((Nat.le_div_iff_mul_le (by omega)).2 ?_) h.hi
  have e := h.eq
  generalize yy / 4294967296 = n at *
  generalize yy % 4294967296 = k at *
  have : q * yy = q * n * 4294967296 + q * k := by rw [ey, Nat.mul_add, ← Nat.mul_assoc]
  rw [this, e, Nat.add_mul]; omega
theorem Dig.fin2 {yy u d q r : Nat} (h : Dig yy u d q r) (hq : q ≤ 4294967296) (hr : 4294967296 ≤ r) : q = (u * 4294967296 + d) / yy := by
  refine h.fin ?_
  have : q * (yy % 4294967296) ≤ 4294967296 * (yy % 4294967296) := Nat.mul_le_mul_right _ hq
  have := Nat.mod_lt yy (show 0 < 4294967296 by decide)
  omega
theorem Dig.lt {yy u d q r : Nat} (h : Dig yy u d q r) (hf : q = (u * 4294967296 + d) / yy) : q < 4294967296 := by
  obtain ⟨n0, n1, m1, ey⟩ := h.top
  rw [hf]
  exact (Nat.div_lt_iff_lt_mul (by omega)).2 (by have := h.u1; have := h.d1; omega)
/-- What is left behind a digit, in words of 64 bits. -/
theorem dig_rest (yy u d : Nat) (y1 : yy < 18446744073709551616) (y0 : 0 < yy) : IntKind.u64.wrap (IntKind.u64.wrap (IntKind.u64.wrap ((u : Int) * 4294967296) + d) - IntKind.u64.wrap (((u * 4294967296 + d) / yy : Nat) * (yy : Int))) = (((u * 4294967296 + d) % yy : Nat) : Int) := by
  have e := Nat.div_add_mod (u * 4294967296 + d) yy
  have hl := Nat.mod_lt (u * 4294967296 + d) y0
  generalize (u * 4294967296 + d) / yy = q at *
  generalize (u * 4294967296 + d) % yy = r at *
  simp only [wrap_u64]
  have e2 : ((u : Int) * 4294967296 + d) = (q : Int) * yy + r := by
    rw [Nat.mul_comm] at e
    omega
  have e3 : (((u : Int) * 4294967296) % 18446744073709551616 + d) % 18446744073709551616 = ((q : Int) * yy + r) % 18446744073709551616 := by rw [Int.emod_add_emod, e2]
  rw [e3, ← Int.sub_emod]
  have : (q : Int) * yy + r - q * yy = r := by omega
  rw [this]; omega

/-- The divisor, pushed up. -/
theorem norm_y (y : Nat) (y0 : 0 < y) (y1 : y < 18446744073709551616) : Lib.bitLen y ≤ 64 ∧ 1 ≤ Lib.bitLen y ∧ 9223372036854775808 ≤ y * 2 ^ (64 - Lib.bitLen y) ∧ y * 2 ^ (64 - Lib.bitLen y) < 18446744073709551616 := by
  obtain ⟨h1, h2, h3⟩ := Lib.bitLenAux_bounds 64 y y1 (by omega)
  have h4 : Lib.bitLen y ≤ 64 := Lib.bitLen_le y 64 (by omega) y1
  unfold Lib.bitLen at *
  generalize Lib.bitLenAux 64 y = l at *
  refine ⟨h4, h1, ?_, ?_⟩
  · have : 2 ^ (l - 1) * 2 ^ (64 - l) ≤ y * 2 ^ (64 - l) := Nat.mul_le_mul_right _ h2
    rw [← Nat.pow_add, show l - 1 + (64 - l) = 63 by omega] at this
    exact this
  · have : y * 2 ^ (64 - l) < 2 ^ l * 2 ^ (64 - l) := Nat.mul_lt_mul_of_pos_right h3 (Nat.pow_pos (by decide))
    rw [← Nat.pow_add, show l + (64 - l) = 64 by omega] at this
    exact this
/-- Upper and lower half, pushed up. -/
theorem norm_u (hi lo y s : Nat) (hs : s ≤ 64) (h : hi < y) (hl : lo < 18446744073709551616) (hy : y * 2 ^ s < 18446744073709551616) :
    hi * 2 ^ s + lo / 2 ^ (64 - s) < y * 2 ^ s ∧ lo / 2 ^ (64 - s) < 2 ^ s ∧ (hi * 18446744073709551616 + lo) * 2 ^ s = (hi * 2 ^ s + lo / 2 ^ (64 - s)) * 18446744073709551616 + lo * 2 ^ s % 18446744073709551616 := by
  have p0 : 0 < 2 ^ s := Nat.pow_pos (by decide)
  have p1 : 0 < 2 ^ (64 - s) := Nat.pow_pos (by decide)
  have pp : 2 ^ (64 - s) * 2 ^ s = 18446744073709551616 := by rw [← Nat.pow_add, show 64 - s + s = 64 by omega]
  have h1 : lo / 2 ^ (64 - s) < 2 ^ s := by
    refine (Nat.div_lt_iff_lt_mul p1).2 ?_
    rw [Nat.mul_comm, pp]; exact hl
  have h2 : (hi + 1) * 2 ^ s ≤ y * 2 ^ s := Nat.mul_le_mul_right _ h
  rw [Nat.succ_mul] at h2
  refine ⟨by omega, h1, ?_⟩
  have h3 : lo * 2 ^ s / 18446744073709551616 = lo / 2 ^ (64 - s) := by
    rw [← pp, Nat.mul_div_mul_right _ _ p0]
  have h4 := Nat.div_add_mod (lo * 2 ^ s) 18446744073709551616
  rw [h3] at h4
  rw [Nat.add_mul, Nat.add_mul]
  have h5 : hi * 18446744073709551616 * 2 ^ s = hi * 2 ^ s * 18446744073709551616 := by rw [Nat.mul_right_comm]
  rw [h5]
  generalize lo * 2 ^ s % 18446744073709551616 = c at *
  generalize lo / 2 ^ (64 - s) = b at *
  omega
/-- Two digits together. -/
theorem two_digits (U y s yy u un10 : Nat) (hyy : yy = y * 2 ^ s) (y0 : 0 < y) (hU : U * 2 ^ s = u * 18446744073709551616 + un10) (h10 : un10 < 18446744073709551616) :
    ∀ N M, N = u * 4294967296 + un10 / 4294967296 → M = N % yy * 4294967296 + un10 % 4294967296 → U / y = N / yy * 4294967296 + M / yy ∧ U % y = M % yy / 2 ^ s := by
  intro N M hN hM
  have p0 : 0 < 2 ^ s := Nat.pow_pos (by decide)
  have yy0 : 0 < yy := by rw [hyy]; exact Nat.mul_pos y0 p0
  have e1 : U * 2 ^ s = N * 4294967296 + un10 % 4294967296 := by rw [hU, hN]; omega
  have e2 := Nat.div_add_mod N yy
  have e3 := Nat.div_add_mod M yy
  have l3 := Nat.mod_lt M yy0
  have e4 : U * 2 ^ s = (N / yy * 4294967296 + M / yy) * yy + M % yy := by
    generalize N / yy = a at *
    generalize N % yy = b at *
    generalize M / yy = c at *
    generalize M % yy = d at *
    rw [e1, ← e2, Nat.add_mul, Nat.add_mul, Nat.mul_comm c yy, Nat.mul_comm yy a, Nat.mul_right_comm]
    omega
  have d1 : U * 2 ^ s / yy = N / yy * 4294967296 + M / yy := by
    rw [e4, Nat.mul_comm, Nat.mul_add_div yy0, Nat.div_eq_of_lt l3, Nat.add_zero]
  have d2 : U * 2 ^ s % yy = M % yy := by
    rw [e4, Nat.mul_comm, Nat.mul_add_mod, Nat.mod_eq_of_lt l3]
  rw [hyy, Nat.mul_div_mul_right _ _ p0] at d1
  rw [hyy, Nat.mul_mod_mul_right] at d2
  refine ⟨by rw [d1, hyy], ?_⟩
  rw [hyy, ← d2, Nat.mul_div_cancel _ p0]
end Go.Proofs.Ytcdhihoghkkahaa.Ab
