/- Dividing 128 bits by 64, digit by digit of 32 bits: what each digit is. Lists in memory: what is read, and written, at a place; sorting by what stands ahead. Slices that a call owns, as lists; one more behind them. -/
import Derived.Test.YtdckcophbmnjjaaGreatDoorLg6
import Derived.Lib.BitFns
import Derived.Lib.ItoaNum
set_option linter.all false
namespace Go.Proofs.YtdckcophbmnjjaaGreatDoor.Ab
open Go

theorem mod_c (n : Nat) (h : n < 18446744073709551616) : (n : Int) % 18446744073709551616 = n := by omega
theorem wrap_c (n : Nat) (h : n < 18446744073709551616) : IntKind.u64.wrap (n : Int) = n := by rw [wrap_u64]; omega
theorem div_c (a b : Nat) (ha : a < 18446744073709551616) : IntKind.u64.wrap ((a : Int).tdiv (b : Int)) = ((a / b : Nat) : Int) := by
  have e : (a : Int).tdiv (b : Int) = ((a / b : Nat) : Int) := by rw [Int.tdiv_eq_ediv_of_nonneg (by omega)]; simp
  rw [e, wrap_c _ (Nat.lt_of_le_of_lt (Nat.div_le_self a b) ha)]
theorem rem_c (a b : Nat) : (a : Int).tmod (b : Int) = ((a % b : Nat) : Int) := by
  rw [Int.tmod_eq_emod_of_nonneg (by omega)]; simp
theorem left_c (a b : Nat) (ha : a < 18446744073709551616) : IntKind.u64.wrap ((a : Int) - IntKind.u64.wrap (((a / b : Nat) : Int) * (b : Int))) = ((a % b : Nat) : Int) := by
  have e := Nat.div_add_mod a b
  have e2 : ((a / b : Nat) : Int) * (b : Int) = ((b * (a / b) : Nat) : Int) := by rw [Nat.mul_comm]; simp
  rw [e2]
  generalize b * (a / b) = k at *
  generalize a % b = r at *
  rw [wrap_c k (by omega)]
  have : (a : Int) - k = r := by omega
  rw [this, wrap_c r (by omega)]
/-- What holds of a digit on its way. -/
structure Dig (yy u d q r : Nat) : Prop where
  y0 : 9223372036854775808 ≤ yy
  y1 : yy < 18446744073709551616
  u1 : u < yy
  d1 : d < 4294967296
  eq : u = q * (yy / 4294967296) + r
  hi : (u * 4294967296 + d) / yy ≤ q
  le : q ≤ 4294967297
theorem Dig.top {yy u d q r : Nat} (h : Dig yy u d q r) : 2147483648 ≤ yy / 4294967296 ∧ yy / 4294967296 < 4294967296 ∧ yy % 4294967296 < 4294967296 ∧ yy = yy / 4294967296 * 4294967296 + yy % 4294967296 := by
  have := h.y0; have := h.y1
  omega
theorem Dig.init {yy u d : Nat} (y0 : 9223372036854775808 ≤ yy) (y1 : yy < 18446744073709551616) (u1 : u < yy) (d1 : d < 4294967296) : Dig yy u d (u / (yy / 4294967296)) (u % (yy / 4294967296)) ∧ u % (yy / 4294967296) < 4294967296 := by
  generalize hn : yy / 4294967296 = n
  have n0 : 2147483648 ≤ n := by omega
  have n1 : n < 4294967296 := by omega
  have e := Nat.div_add_mod u n
  have r1 := Nat.mod_lt u (show 0 < n by omega)
  generalize hq : u / n = q at e ⊢
  generalize hr : u % n = r at e r1 ⊢
  have e' : u = q * n + r := by rw [Nat.mul_comm]; omega
  refine ⟨⟨y0, y1, u1, d1, by rw [hn]; exact e', ?_, ?_⟩, by omega⟩
  · refine Nat.le_of_lt_succ ((Nat.div_lt_iff_lt_mul (by omega)).2 ?_)
    have h1 : u + 1 ≤ (q + 1) * n := by rw [Nat.succ_mul]; omega
    have h2 : (u + 1) * 4294967296 ≤ (q + 1) * n * 4294967296 := Nat.mul_le_mul_right _ h1
    have h3 : (q + 1) * n * 4294967296 ≤ (q + 1) * yy := by
      have h5 : n * 4294967296 ≤ yy := by rw [← hn]; exact Nat.div_mul_le_self _ _
      rw [Nat.mul_assoc]; exact Nat.mul_le_mul_left (q + 1) h5
    show u * 4294967296 + d < (q + 1) * yy
    omega
  · have h1 : q * n ≤ 4294967296 * n + 4294967295 := by omega
    by_cases h : q ≤ 4294967297
    · exact h
    · exfalso
      have : 4294967298 * n ≤ q * n := Nat.mul_le_mul_right _ (by omega)
      omega
theorem Dig.low {yy u d q r : Nat} (h : Dig yy u d q r) (hc : 4294967296 ≤ q ∨ 4294967296 * r + d < q * (yy % 4294967296)) : (u * 4294967296 + d) / yy < q := by
  obtain ⟨n0, n1, m1, ey⟩ := h.top
  rcases hc with hc | hc
  · have : (u * 4294967296 + d) / yy < 4294967296 := (Nat.div_lt_iff_lt_mul (by omega)).2 (by have := h.u1; have := h.d1; omega)
    omega
  · refine (Nat.div_lt_iff_lt_mul (by omega)).2 ?_
    have e := h.eq
    generalize yy / 4294967296 = n at *
    generalize yy % 4294967296 = k at *
    have : q * yy = q * n * 4294967296 + q * k := by rw [ey, Nat.mul_add, ← Nat.mul_assoc]
    rw [this, e, Nat.add_mul]; omega
theorem Dig.step {yy u d q r : Nat} (h : Dig yy u d q r) (hc : 4294967296 ≤ q ∨ 4294967296 * r + d < q * (yy % 4294967296)) : Dig yy u d (q - 1) (r + yy / 4294967296) ∧ 1 ≤ q := by
  have hl := h.low hc
  have hq : 1 ≤ q := Nat.lt_of_le_of_lt (Nat.zero_le _) hl
  refine ⟨⟨h.y0, h.y1, h.u1, h.d1, ?_, Nat.le_sub_one_of_lt hl, by have := h.le; omega⟩, hq⟩
  rw [h.eq]
  obtain ⟨k, rfl⟩ : ∃ k, q = k + 1 := ⟨q - 1, by omega⟩
  simp only [Nat.add_sub_cancel, Nat.succ_mul]; omega
theorem Dig.fin {yy u d q r : Nat} (h : Dig yy u d q r) (hc : q * (yy % 4294967296) ≤ 4294967296 * r + d) : q = (u * 4294967296 + d) / yy := by
  obtain ⟨n0, n1, m1, ey⟩ := h.top
  refine Nat.le_antisymm ((Nat.le_div_iff_mul_le (by omega)).2 ?_) h.hi
  have e := h.eq
  generalize yy / 4294967296 = n at *
  generalize yy % 4294967296 = k at *
  have : q * yy = q * n * 4294967296 + q * k := by rw [ey, Nat.mul_add, ← Nat.mul_assoc]
  rw [this, e, Nat.add_mul]; omega
theorem Dig.fin2 {yy u d q r : Nat} (h : Dig yy u d q r) (hq : q ≤ 4294967296) (hr : 4294967296 ≤ r) : q = (u * 4294967296 + d) / yy := by
  refine h.fin ?_
  have : q * (yy % 4294967296) ≤ 4294967296 * (yy % 4294967296) := Nat.mul_le_mul_right _ hq
  have := Nat.mod_lt yy (show 0 < 4294967296 by decide)
  omega
theorem Dig.lt {yy u d q r : Nat} (h : Dig yy u d q r) (hf : q = (u * 4294967296 + d) / yy) : q < 4294967296 := by
  obtain ⟨n0, n1, m1, ey⟩ := h.top
  rw [hf]
  exact (Nat.div_lt_iff_lt_mul (by omega)).2 (by have := h.u1; have := h.d1; omega)
/-- What is left behind a digit, in words of 64 bits. -/
theorem dig_rest (yy u d : Nat) (y1 : yy < 18446744073709551616) (y0 : 0 < yy) : IntKind.u64.wrap (IntKind.u64.wrap (IntKind.u64.wrap ((u : Int) * 4294967296) + d) - IntKind.u64.wrap (((u * 4294967296 + d) / yy : Nat) * (yy : Int))) = (((u * 4294967296 + d) % yy : Nat) : Int) := by
  have e := Nat.div_add_mod (u * 4294967296 + d) yy
  have hl := Nat.mod_lt (u * 4294967296 + d) y0
  generalize (u * 4294967296 + d) / yy = q at *
  generalize (u * 4294967296 + d) % yy = r at *
  simp only [wrap_u64]
  have e2 : ((u : Int) * 4294967296 + d) = (q : Int) * yy + r := by
    rw [Nat.mul_comm] at e
    omega
  have e3 : (((u : Int) * 4294967296) % 18446744073709551616 + d) % 18446744073709551616 = ((q : Int) * yy + r) % 18446744073709551616 := by rw [Int.emod_add_emod, e2]
  rw [e3, ← Int.sub_emod]
  have : (q : Int) * yy + r - q * yy = r := by omega
  rw [this]; omega

/-- The divisor, pushed up. -/
theorem norm_y (y : Nat) (y0 : 0 < y) (y1 : y < 18446744073709551616) : Lib.bitLen y ≤ 64 ∧ 1 ≤ Lib.bitLen y ∧ 9223372036854775808 ≤ y * 2 ^ (64 - Lib.bitLen y) ∧ y * 2 ^ (64 - Lib.bitLen y) < 18446744073709551616 := by
  obtain ⟨h1, h2, h3⟩ := Lib.bitLenAux_bounds 64 y y1 (by omega)
  have h4 : Lib.bitLen y ≤ 64 := Lib.bitLen_le y 64 (by omega) y1
  unfold Lib.bitLen at *
  generalize Lib.bitLenAux 64 y = l at *
  refine ⟨h4, h1, ?_, ?_⟩
  · have : 2 ^ (l - 1) * 2 ^ (64 - l) ≤ y * 2 ^ (64 - l) := Nat.mul_le_mul_right _ h2
    rw [← Nat.pow_add, show l - 1 + (64 - l) = 63 by omega] at this
    exact this
  · have : y * 2 ^ (64 - l) < 2 ^ l * 2 ^ (64 - l) := Nat.mul_lt_mul_of_pos_right h3 (Nat.pow_pos (by decide))
    rw [← Nat.pow_add, show l + (64 - l) = 64 by omega] at this
    exact this
/-- Upper and lower half, pushed up. -/
theorem norm_u (hi lo y s : Nat) (hs : s ≤ 64) (h : hi < y) (hl : lo < 18446744073709551616) (hy : y * 2 ^ s < 18446744073709551616) :
    hi * 2 ^ s + lo / 2 ^ (64 - s) < y * 2 ^ s ∧ lo / 2 ^ (64 - s) < 2 ^ s ∧ (hi * 18446744073709551616 + lo) * 2 ^ s = (hi * 2 ^ s + lo / 2 ^ (64 - s)) * 18446744073709551616 + lo * 2 ^ s % 18446744073709551616 := by
  have p0 : 0 < 2 ^ s := Nat.pow_pos (by decide)
  have p1 : 0 < 2 ^ (64 - s) := Nat.pow_pos (by decide)
  have pp : 2 ^ (64 - s) * 2 ^ s = 18446744073709551616 := by rw [← Nat.pow_add, show 64 - s + s = 64 by omega]
  have h1 : lo / 2 ^ (64 - s) < 2 ^ s := by
    refine (Nat.div_lt_iff_lt_mul p1).2 ?_
    rw [Nat.mul_comm, pp]; exact hl
  have h2 : (hi + 1) * 2 ^ s ≤ y * 2 ^ s := Nat.mul_le_mul_right _ h
  rw [Nat.succ_mul] at h2
  refine ⟨by omega, h1, ?_⟩
  have h3 : lo * 2 ^ s / 18446744073709551616 = lo / 2 ^ (64 - s) := by
    rw [← pp, Nat.mul_div_mul_right _ _ p0]
  have h4 := Nat.div_add_mod (lo * 2 ^ s) 18446744073709551616
  rw [h3] at h4
  rw [Nat.add_mul, Nat.add_mul]
  have h5 : hi * 18446744073709551616 * 2 ^ s = hi * 2 ^ s * 18446744073709551616 := by rw [Nat.mul_right_comm]
  rw [h5]
  generalize lo * 2 ^ s % 18446744073709551616 = c at *
  generalize lo / 2 ^ (64 - s) = b at *
  omega
/-- Two digits together. -/
theorem two_digits (U y s yy u un10 : Nat) (hyy : yy = y * 2 ^ s) (y0 : 0 < y) (hU : U * 2 ^ s = u * 18446744073709551616 + un10) (h10 : un10 < 18446744073709551616) :
    ∀ N M, N = u * 4294967296 + un10 / 4294967296 → M = N % yy * 4294967296 + un10 % 4294967296 → U / y = N / yy * 4294967296 + M / yy ∧ U % y = M % yy / 2 ^ s := by
  intro N M hN hM
  have p0 : 0 < 2 ^ s := Nat.pow_pos (by decide)
  have yy0 : 0 < yy := by rw [hyy]; exact Nat.mul_pos y0 p0
  have e1 : U * 2 ^ s = N * 4294967296 + un10 % 4294967296 := by rw [hU, hN]; omega
  have e2 := Nat.div_add_mod N yy
  have e3 := Nat.div_add_mod M yy
  have l3 := Nat.mod_lt M yy0
  have e4 : U * 2 ^ s = (N / yy * 4294967296 + M / yy) * yy + M % yy := by
    generalize N / yy = a at *
    generalize N % yy = b at *
    generalize M / yy = c at *
    generalize M % yy = d at *
    rw [e1, ← e2, Nat.add_mul, Nat.add_mul, Nat.mul_comm c yy, Nat.mul_comm yy a, Nat.mul_right_comm]
    omega
  have d1 : U * 2 ^ s / yy = N / yy * 4294967296 + M / yy := by
    rw [e4, Nat.mul_comm, Nat.mul_add_div yy0, Nat.div_eq_of_lt l3, Nat.add_zero]
  have d2 : U * 2 ^ s % yy = M % yy := by
    rw [e4, Nat.mul_comm, Nat.mul_add_mod, Nat.mod_eq_of_lt l3]
  rw [hyy, Nat.mul_div_mul_right _ _ p0] at d1
  rw [hyy, Nat.mul_mod_mul_right] at d2
  refine ⟨by rw [d1, hyy], ?_⟩
  rw [hyy, ← d2, Nat.mul_div_cancel _ p0]
end Go.Proofs.YtdckcophbmnjjaaGreatDoor.Ab
namespace Go.Proofs.YtdckcophbmnjjaaGreatDoor.Ab
open Go

section
variable {α : Type} {enc : α → List AVal} {sz : Nat}
theorem flat_len (h : ∀ a, (enc a).length = sz) : ∀ (L : List α), (L.flatMap enc).length = L.length * sz
  | [] => by simp
  | a :: L => by simp [flat_len h L, h a, Nat.succ_mul]; omega
theorem flat_drop (h : ∀ a, (enc a).length = sz) : ∀ (L : List α) (R : List AVal) (i : Nat), i ≤ L.length → (L.flatMap enc ++ R).drop (i * sz) = (L.drop i).flatMap enc ++ R
  | L, R, 0, _ => by simp
  | [], R, i + 1, hi => by simp at hi
  | a :: L, R, i + 1, hi => by
    have e : (i + 1) * sz = (enc a).length + i * sz := by rw [h a, Nat.succ_mul]; omega
    simp only [List.flatMap_cons, List.append_assoc, e, List.drop_succ_cons]
    rw [← List.drop_drop, List.drop_left]
    exact flat_drop h L R i (by simpa using hi)
theorem flat_take (h : ∀ a, (enc a).length = sz) : ∀ (L : List α) (R : List AVal) (i : Nat), i ≤ L.length → (L.flatMap enc ++ R).take (i * sz) = (L.take i).flatMap enc
  | L, R, 0, _ => by simp
  | [], R, i + 1, hi => by simp at hi
  | a :: L, R, i + 1, hi => by
    have e : (i + 1) * sz = (enc a).length + i * sz := by rw [h a, Nat.succ_mul]; omega
    simp only [List.flatMap_cons, List.append_assoc, e, List.take_succ_cons]
    rw [List.take_length_add_append, flat_take h L R i (by simpa using hi)]
/-- What lies at a place. -/
theorem flat_at (h : ∀ a, (enc a).length = sz) (L : List α) (R : List AVal) (i : Nat) (hi : i < L.length) : ((L.flatMap enc ++ R).drop (i * sz)).take sz = enc L[i] := by
  rw [flat_drop h L R i (by omega), List.drop_eq_getElem_cons hi]
  simp only [List.flatMap_cons, List.append_assoc]
  rw [← h L[i], List.take_left]
/-- What is written at a place. -/
theorem flat_set (h : ∀ a, (enc a).length = sz) (L : List α) (R : List AVal) (i : Nat) (x : α) (hi : i < L.length) : splice (L.flatMap enc ++ R) (i * sz) (enc x) = (L.set i x).flatMap enc ++ R := by
  unfold splice
  have e : i * sz + (enc x).length = (i + 1) * sz := by rw [h x, Nat.succ_mul]
  rw [e, flat_take h L R i (by omega), flat_drop h L R (i + 1) (by omega), List.set_eq_take_append_cons_drop, if_pos hi]
  simp
theorem flat_getD (L : List α) (f : α → AVal) (R : List AVal) (i : Nat) (hi : i < L.length) : (L.flatMap (fun a => [f a]) ++ R).getD i .undef = f L[i] := by
  have := flat_at (enc := fun a => [f a]) (sz := 1) (fun _ => rfl) L R i hi
  rw [Nat.mul_one] at this
  rw [List.getD_eq_getElem?_getD]
  have e : (L.flatMap (fun a => [f a]) ++ R)[i]? = (((L.flatMap (fun a => [f a]) ++ R).drop i).take 1)[0]? := by simp [List.getElem?_take, List.getElem?_drop]
  rw [e, this]; rfl
theorem flat_room (h : ∀ a, (enc a).length = sz) (L : List α) (R : List AVal) (i : Nat) (hi : i < L.length) : i * sz + sz ≤ (L.flatMap enc ++ R).length := by
  rw [List.length_append, flat_len h]
  have : (i + 1) * sz ≤ L.length * sz := Nat.mul_le_mul_right _ hi
  rw [Nat.succ_mul] at this
  omega
end

/-! ### Order -/
/-- An order that may not part some: who is not behind. -/
structure SOrd {α : Type} (lt : α → α → Bool) : Prop where
  asym : ∀ a b, lt a b = true → lt b a = false
  tran : ∀ a b c, lt b a = false → lt c b = false → lt c a = false
def Srt {α : Type} (lt : α → α → Bool) (L : List α) : Prop := L.Pairwise fun a b => lt b a = false
def swp {α : Type} [Inhabited α] (L : List α) (i j : Nat) : List α := (L.set i (L.getD j default)).set j (L.getD i default)

section
variable {α : Type} [Inhabited α] {lt : α → α → Bool}
theorem swp_len (L : List α) (i j : Nat) : (swp L i j).length = L.length := by simp [swp]
theorem swp_getD (L : List α) (i j k : Nat) (hi : i < L.length) (hj : j < L.length) : (swp L i j).getD k default = if k = j then L.getD i default else if k = i then L.getD j default else L.getD k default := by
  simp only [swp, List.getD_eq_getElem?_getD, List.getElem?_set, List.length_set]
  by_cases h1 : j = k
  · subst h1; simp [hj]
  · by_cases h2 : i = k
    · subst h2; simp [h1, Ne.symm h1, hi]
    · simp [h1, h2, Ne.symm h1, Ne.symm h2]
theorem swp_perm (L : List α) (i j : Nat) (hi : i < L.length) (hj : j < L.length) : (swp L i j).Perm L := by
  have e : swp L i j = (L.toArray.swap i j hi hj).toList := by
    simp [swp, Array.swap, List.getD_eq_getElem?_getD, hi, hj]
  rw [e]
  exact (Array.swap_perm (xs := L.toArray) hi hj).toList
/-- What is sorted, place by place. -/
theorem srt_of (L : List α) (h : ∀ p q, p < q → q < L.length → lt (L.getD q default) (L.getD p default) = false) : Srt lt L := by
  unfold Srt
  rw [List.pairwise_iff_getElem]
  intro i j hi hj hij
  have := h i j hij hj
  simpa [List.getD_eq_getElem?_getD, hi, hj] using this
theorem srt_at {L : List α} (h : Srt lt L) (p q : Nat) (hpq : p < q) (hq : q < L.length) : lt (L.getD q default) (L.getD p default) = false := by
  unfold Srt at h
  rw [List.pairwise_iff_getElem] at h
  have := h p q (by omega) hq hpq
  simpa [List.getD_eq_getElem?_getD, show p < L.length by omega, hq] using this

/-- An element on its way to its place: all others of a .. i are sorted, none behind it is ahead of it. -/
structure Ins (lt : α → α → Bool) (C : List α) (a i j : Nat) : Prop where
  ji : j ≤ i
  aj : a ≤ j
  len : i < C.length
  oth : ∀ p q, a ≤ p → p < q → q ≤ i → p ≠ j → q ≠ j → lt (C.getD q default) (C.getD p default) = false
  beh : ∀ q, j < q → q ≤ i → lt (C.getD q default) (C.getD j default) = false
/-- a .. i is sorted. -/
def SrtTo (lt : α → α → Bool) (C : List α) (a i : Nat) : Prop := ∀ p q, a ≤ p → p < q → q < i → lt (C.getD q default) (C.getD p default) = false
theorem Ins.init {C : List α} {a i : Nat} (h : SrtTo lt C a i) (hi : i < C.length) (ha : a ≤ i) : Ins lt C a i i :=
  ⟨Nat.le_refl _, ha, hi, fun p q hap hpq hqi _ hqj => h p q hap hpq (by omega), fun q h1 h2 => by omega⟩
theorem Ins.done (O : SOrd lt) {C : List α} {a i j : Nat} (h : Ins lt C a i j) (hx : j = a ∨ lt (C.getD j default) (C.getD (j - 1) default) = false) : SrtTo lt C a (i + 1) := by
  intro p q hap hpq hq
  by_cases e1 : p = j
  · subst e1; exact h.beh q hpq (by omega)
  · by_cases e2 : q = j
    · subst e2
      rcases hx with hx | hx
      · omega
      · by_cases e3 : p = q - 1
        · subst e3; exact hx
        · have h2 := h.oth p (q - 1) hap (by omega) (by have := h.ji; omega) (by omega) (by omega)
          exact O.tran _ _ _ h2 hx
    · exact h.oth p q hap hpq (by omega) e1 e2
theorem Ins.step (O : SOrd lt) {C : List α} {a i j : Nat} (h : Ins lt C a i j) (hj : a < j) (hx : lt (C.getD j default) (C.getD (j - 1) default) = true) : Ins lt (swp C j (j - 1)) a i (j - 1) := by
  have hl := h.len
  have hji := h.ji
  have g : ∀ k, (swp C j (j - 1)).getD k default = if k = j - 1 then C.getD j default else if k = j then C.getD (j - 1) default else C.getD k default := fun k => swp_getD C j (j - 1) k (by omega) (by omega)
  refine ⟨by omega, by omega, by rw [swp_len]; exact hl, fun p q hap hpq hqi hp hq => ?_, fun q h1 h2 => ?_⟩
  · rw [g, g, if_neg hp, if_neg hq]
    by_cases e1 : p = j
    · subst e1
      rw [if_pos rfl, if_neg (by omega)]
      exact h.oth (p - 1) q (by omega) (by omega) hqi (by omega) (by omega)
    · rw [if_neg e1]
      by_cases e2 : q = j
      · subst e2
        rw [if_pos rfl]
        exact h.oth p (q - 1) hap (by omega) (by omega) (by omega) (by omega)
      · rw [if_neg e2]; exact h.oth p q hap hpq hqi e1 e2
  · rw [g, g, if_pos rfl, if_neg (by omega)]
    by_cases e1 : q = j
    · subst e1; rw [if_pos rfl]; exact O.asym _ _ hx
    · rw [if_neg e1]; exact h.beh q (by omega) h2
end
theorem intOrd : SOrd (fun a b : Int => decide (a < b)) := ⟨fun a b h => by simp at h ⊢; omega, fun a b c h1 h2 => by simp at h1 h2 ⊢; omega⟩
end Go.Proofs.YtdckcophbmnjjaaGreatDoor.Ab
namespace Go.Proofs.YtdckcophbmnjjaaGreatDoor.Ab
open Go

theorem neL {m : Heap} {p : Nat} {x : ABlk} (h : m p = some x) : ∀ b, m b = none → (p = b) = False := by
  intro b hb
  simp only [eq_iff_iff, iff_false]
  intro e; rw [e, hb] at h; cases h
theorem neR {m : Heap} {p : Nat} {x : ABlk} (h : m p = some x) : ∀ b, m b = none → (b = p) = False := by
  intro b hb
  simp only [eq_iff_iff, iff_false]
  intro e; rw [← e, hb] at h; cases h
theorem ne_of {m : Heap} {p b : Nat} {x : ABlk} (h : m p = some x) (hb : m b = none) : p ≠ b ∧ b ≠ p :=
  ⟨fun e => (by rw [e, hb] at h; cases h), fun e => (by rw [← e, hb] at h; cases h)⟩
theorem runOps_appc {P : Program} {G : Nat → AVal} {N : Nat} (ops : Array Oper) (x : Oper) (l r : List Oper) (ts : TS) (m : Heap) (K : TS → Heap → Prop) : runOps P G N ops (List.append (x :: l) r) ts m K = runOps P G N ops (x :: List.append l r) ts m K := rfl
theorem runOps_appn {P : Program} {G : Nat → AVal} {N : Nat} (ops : Array Oper) (r : List Oper) (ts : TS) (m : Heap) (K : TS → Heap → Prop) : runOps P G N ops (List.append [] r) ts m K = runOps P G N ops r ts m K := rfl
theorem app_cons {α : Type} (x : α) (l r : List α) : List.append (x :: l) r = x :: List.append l r := rfl
theorem app_nil {α : Type} (r : List α) : List.append [] r = r := rfl
theorem rep_1 (z : List AVal) : rep 1 z = z := by simp [rep]
theorem rep_0 (z : List AVal) : rep 0 z = [] := rfl
theorem rep_2 (z : List AVal) : rep 2 z = z ++ z := by simp [rep, List.replicate]
theorem rep_3 (z : List AVal) : rep 3 z = z ++ (z ++ z) := by simp [rep, List.replicate]
theorem run_eff (T : Heap → (AVal → Heap → Prop) → Prop) (m : Heap) (K : AVal → Heap → Prop) : (D.eff T).run m K = T m K := rfl
@[congr] theorem aappend_cong {P : Program} {st xt : TypeId} {s s' x x' : AVal} {m : Heap} {K : AVal → Heap → Prop} (h0 : mk s = s') (h1 : mk x = x') : aappend P st xt s x m K = aappend P st xt s' x' m K := by rw [mk_id] at h0 h1; rw [h0, h1]
@[congr] theorem acopy_cong {P : Program} {st : TypeId} {s s' x x' : AVal} {m : Heap} {K : AVal → Heap → Prop} (h0 : mk s = s') (h1 : mk x = x') : acopy P st s x m K = acopy P st s' x' m K := by rw [mk_id] at h0 h1; rw [h0, h1]

theorem quiet_and {P : Program} {G : Nat → AVal} {S0 : Nat → Prop} {m0 : Heap} {f : FuncId} {args : List AVal} {v : AVal} {r : Prop} (h : QCall P G S0 m0 f args v) (h' : r) : QCall P G S0 m0 f args v ∧ r := ⟨h, h'⟩
theorem isQuiet {P : Program} {G : Nat → AVal} {S0 : Nat → Prop} {m0 : Heap} {f : FuncId} {args : List AVal} {v : AVal} (h : QCall P G S0 m0 f args v) : QCall P G S0 m0 f args v := h
theorem isApp {P : Program} {st xt : TypeId} {s x : AVal} {m : Heap} {K : AVal → Heap → Prop} (h : aappend P st xt s x m K) : aappend P st xt s x m K := h
section
variable {α : Type} {enc : α → List AVal} {sz : Nat}
/-- A slice is a list, in a block. -/
def SlV (enc : α → List AVal) (sz : Nat) (C : List α) (v : AVal) (b : Nat) (blk : ABlk) : Prop :=
  ∃ pre post N cap, v = .slice b pre.length C.length cap ∧ blk = .cells (pre ++ (C.flatMap enc ++ post)) N ∧ pre.length + cap * sz ≤ N ∧ C.length ≤ cap
def SlM (enc : α → List AVal) (sz : Nat) (C : List α) (v : AVal) (m : Heap) : Prop := (v = .nils ∧ C = []) ∨ ∃ b blk, m b = some blk ∧ SlV enc sz C v b blk
theorem SlM.upd {C : List α} {v : AVal} {m : Heap} {p : Nat} {x : ABlk} (h : SlM enc sz C v m) (hp : ∀ b o l c, v = .slice b o l c → b ≠ p) : SlM enc sz C v (hupd m p x) := by
  rcases h with h | ⟨b, blk, hb, hv⟩
  · exact .inl h
  · have hv' := hv
    obtain ⟨pre, post, N, cap, rfl, _⟩ := hv'
    exact .inr ⟨b, blk, by rw [hupd_ne (hp _ _ _ _ rfl)]; exact hb, hv⟩
theorem SlM.fresh {C : List α} {v : AVal} {m : Heap} {p : Nat} {x : ABlk} (h : SlM enc sz C v m) (hp : m p = none) : SlM enc sz C v (hupd m p x) := by
  refine h.upd ?_
  rcases h with ⟨rfl, _⟩ | ⟨b, blk, hb, hv⟩
  · intro b o l c e; cases e
  · obtain ⟨pre, post, N, cap, rfl, _⟩ := hv
    intro b' o l c e
    cases e
    intro e; rw [e, hp] at hb; cases hb
theorem app_step {P : Program} {st xt e : TypeId} {a : Bool} {sz by' : Nat} {s x : AVal} {m : Heap} {K : AVal → Heap → Prop} (h1 : P.underlying st = some (.slice e)) (h2 : tk P e = some (a, sz)) (h3 : eb P e = some by') (h4 : zl P e = some sz) (h5 : 0 < by') (h6 : (P.underlying xt).isSome = true) (h7 : isInt P xt = false)
    (h : src sz m x fun n ys => ys.all AVal.flat = true ∧ appTo sz by' n ys s m K) : aappend P st xt s x m K := by
  unfold aappend
  rw [h1]
  simp only [h2, h3]
  refine ⟨⟨h5, h6, h4⟩, ?_⟩
  unfold appSrc
  rw [h7]
  exact h
/-- More behind a slice. -/
theorem app_to {by' : Nat} {C E : List α} {s : AVal} {m : Heap} {K : AVal → Heap → Prop} (henc : ∀ a, (enc a).length = sz) (hs : SlM enc sz C s m) (h0 : 0 < E.length) (hlen : (C.length + E.length) * by' ≤ 1099511627776)
    (hK : ∀ b v' blk, (m b = none ∨ (∃ o l c, s = .slice b o l c)) → SlV enc sz (C ++ E) v' b blk → K v' (hupd m b blk)) : appTo sz by' E.length (E.flatMap enc) s m K := by
  rcases hs with ⟨rfl, rfl⟩ | ⟨b, blk, hb, pre, post, N, cap, rfl, rfl, hN, hc⟩
  · simp only [appTo]
    refine ⟨fun h => by omega, fun _ => ⟨by simpa using hlen, fun b cap hb hcap => ?_⟩⟩
    exact hK b _ _ (.inl hb) ⟨[], [], cap * sz, cap, by simp, by simp, by simp, by simpa using hcap⟩
  · simp only [appTo, hb]
    have el : (C.flatMap enc).length = C.length * sz := flat_len henc C
    refine ⟨⟨?_, hN⟩, fun hle => ?_, fun hlt => ⟨hlen, fun b' cap' hb' hcap' => ?_⟩⟩
    · rw [List.length_append, List.length_append, el]; omega
    · refine hK b _ _ (.inr ⟨_, _, _, rfl⟩) ⟨pre, post.drop (E.length * sz), N, cap, by simp, ?_, hN, by simpa using hle⟩
      unfold splice
      have e1 : (pre ++ (C.flatMap enc ++ post)).take (pre.length + C.length * sz) = pre ++ C.flatMap enc := by
        rw [List.take_length_add_append, ← el, List.take_left]
      have e2 : (pre ++ (C.flatMap enc ++ post)).drop (pre.length + C.length * sz + (E.flatMap enc).length) = post.drop (E.length * sz) := by
        rw [flat_len henc E, Nat.add_assoc, List.drop_length_add_append, ← el, List.drop_length_add_append]
      rw [e1, e2, List.flatMap_append]; simp
    · refine hK b' _ _ (.inl hb') ⟨[], [], cap' * sz, cap', by simp, ?_, by simp, by simpa using hcap'⟩
      rw [List.drop_left, ← el, List.take_left, List.flatMap_append]; simp
theorem row_len (henc : ∀ a, (enc a).length = sz) (C : List α) (pre post : List AVal) (i : Nat) (hi : i < C.length) : pre.length + i * sz + sz ≤ (pre ++ (C.flatMap enc ++ post)).length := by
  have := flat_room henc C post i hi
  rw [List.length_append]; omega
theorem row_at [Inhabited α] (henc : ∀ a, (enc a).length = sz) (C : List α) (pre post : List AVal) (i : Nat) (hi : i < C.length) : ((pre ++ (C.flatMap enc ++ post)).drop (pre.length + i * sz)).take sz = enc (C.getD i default) := by
  rw [List.drop_length_add_append, flat_at henc C post i hi]
  simp [List.getD_eq_getElem?_getD, hi]
theorem row_at1 [Inhabited α] {f : α → AVal} (C : List α) (pre post : List AVal) (i : Nat) (hi : i < C.length) : (pre ++ (C.flatMap (fun a => [f a]) ++ post)).getD (pre.length + i) .undef = f (C.getD i default) := by
  have := flat_getD C f post i hi
  rw [List.getD_eq_getElem?_getD, List.getElem?_append_right (by omega), Nat.add_sub_cancel_left, ← List.getD_eq_getElem?_getD, this]
  simp [List.getD_eq_getElem?_getD, hi]
theorem SlV.tail {C : List α} {b : Nat} {blk : ABlk} {o l c : Nat} (henc : ∀ a, (enc a).length = sz) (h : SlV enc sz C (.slice b o l c) b blk) (h0 : 0 < C.length) : SlV enc sz C.tail (.slice b (if c = 1 then o else o + sz) (l - 1) (c - 1)) b blk := by
  obtain ⟨pre, post, N, cap, h1, h2, h3, h4⟩ := h
  simp only [AVal.slice.injEq, true_and] at h1
  obtain ⟨rfl, rfl, rfl⟩ := h1
  match C, h0 with
  | x :: C, _ =>
  by_cases hc : c = 1
  · subst hc
    have : C = [] := by simpa using h4
    subst this
    exact ⟨pre, enc x ++ post, N, 0, by simp, by rw [h2]; simp, by omega, by simp⟩
  · rw [if_neg hc]
    refine ⟨pre ++ enc x, post, N, c - 1, ?_, ?_, ?_, ?_⟩
    · simp [henc]
    · rw [h2]; simp
    · rw [List.length_append, henc]
      obtain ⟨k, rfl⟩ : ∃ k, c = k + 1 := ⟨c - 1, by simp at h4; omega⟩
      rw [Nat.succ_mul] at h3
      simp only [Nat.add_sub_cancel]; omega
    · simp at h4 ⊢; omega
end
end Go.Proofs.YtdckcophbmnjjaaGreatDoor.Ab
