/- Plain arithmetic: words of 64 bits, by numbers. -/
import Derived.Test.YtcdhihoghkkahaaAb24
set_option linter.all false
namespace Go.Proofs.Ytcdhihoghkkahaa.Ab
open Go

theorem wrap_u64 (x : Int) : IntKind.u64.wrap x = x % 18446744073709551616 := by
  simp [IntKind.wrap, IntKind.bits, IntKind.signed]
theorem wrap_u64' {x : Int} (h0 : 0 ≤ x) (h1 : x < 18446744073709551616) : IntKind.u64.wrap x = x := by
  rw [wrap_u64]; omega
theorem wrap_i64 {x : Int} (h : -9223372036854775808 ≤ x) (h' : x < 9223372036854775808) : IntKind.i64.wrap x = x := by
  unfold IntKind.wrap; simp [IntKind.signed, IntKind.bits]; omega
theorem wrap_i64_range (x : Int) : -9223372036854775808 ≤ IntKind.i64.wrap x ∧ IntKind.i64.wrap x < 9223372036854775808 := by
  unfold IntKind.wrap; simp [IntKind.signed, IntKind.bits]; omega
theorem bv_nat (n : Nat) : (BitVec.ofInt 64 (n : Int)).toNat = n % 18446744073709551616 := by
  simp [BitVec.toNat_ofInt]
theorem abits_nat (op : BinOp) (f : Nat → Nat → Nat) (hf : ∀ a b : BitVec 64, (match op with | .and => (a &&& b).toNat | .or => (a ||| b).toNat | _ => (a ^^^ b).toNat) = f a.toNat b.toNat) (hop : op = .and ∨ op = .or ∨ op = .xor) (hlt : ∀ a b, a < 18446744073709551616 → b < 18446744073709551616 → f a b < 18446744073709551616)
    (x y : Nat) (hx : x < 18446744073709551616) (hy : y < 18446744073709551616) : abits op .u64 x y = ((f x y : Nat) : Int) := by
  have e1 : (BitVec.ofInt 64 (x : Int)).toNat = x := by rw [bv_nat]; omega
  have e2 : (BitVec.ofInt 64 (y : Int)).toNat = y := by rw [bv_nat]; omega
  have h := hf (BitVec.ofInt 64 (x : Int)) (BitVec.ofInt 64 (y : Int))
  have hl := hlt x y hx hy
  rcases hop with rfl | rfl | rfl <;>
  · simp only at h
    rw [e1, e2] at h
    exact (congrArg (fun n : Nat => IntKind.u64.wrap (n : Int)) h).trans (wrap_u64' (by omega) (by omega))
theorem and_lt64 (a b : Nat) (h : a < 18446744073709551616) (_ : b < 18446744073709551616) : a &&& b < 18446744073709551616 := Nat.lt_of_le_of_lt Nat.and_le_left h
theorem or_lt64 (a b : Nat) (h : a < 18446744073709551616) (h' : b < 18446744073709551616) : a ||| b < 18446744073709551616 := Nat.or_lt_two_pow (n := 64) h h'
theorem and_u64 (x y : Nat) (hx : x < 18446744073709551616) (hy : y < 18446744073709551616) : abits .and .u64 x y = ((x &&& y : Nat) : Int) :=
  abits_nat .and (· &&& ·) (fun a b => by simp) (.inl rfl) and_lt64 x y hx hy
theorem or_u64 (x y : Nat) (hx : x < 18446744073709551616) (hy : y < 18446744073709551616) : abits .or .u64 x y = ((x ||| y : Nat) : Int) :=
  abits_nat .or (· ||| ·) (fun a b => by simp) (.inr (.inl rfl)) or_lt64 x y hx hy
/-- The lowest 32 bits. -/
theorem low32 {x : Int} (h0 : 0 ≤ x) (h1 : x < 18446744073709551616) : abits .and .u64 x 4294967295 = x % 4294967296 := by
  obtain ⟨n, rfl⟩ := Int.eq_ofNat_of_zero_le h0
  rw [show (4294967295 : Int) = ((4294967295 : Nat) : Int) from rfl, and_u64 n 4294967295 (by omega) (by omega)]
  have : n &&& 4294967295 = n % 4294967296 := Nat.and_two_pow_sub_one_eq_mod n 32
  rw [this]; omega
theorem shr_u64 {x s : Int} (h0 : 0 ≤ x) (hs : 0 ≤ s) (hs' : s ≤ 64) : ashr .u64 x s = x / 2 ^ s.toNat := by
  have e : min s.toNat 64 = s.toNat := by omega
  simp only [ashr, IntKind.bits, e]
  exact Int.fdiv_eq_ediv_of_nonneg _ (Int.le_of_lt (Int.pow_pos (by decide)))
theorem shr32 {x : Int} (h0 : 0 ≤ x) : ashr .u64 x 32 = x / 4294967296 := by
  rw [shr_u64 h0 (by decide) (by decide)]; rfl
theorem shl_u64 {x s : Int} (hs : 0 ≤ s) (hs' : s ≤ 64) : ashl .u64 x s = (x * 2 ^ s.toNat) % 18446744073709551616 := by
  have e : min s.toNat 64 = s.toNat := by omega
  simp only [ashl, IntKind.bits, e, wrap_u64]
theorem shl32 {x : Int} : ashl .u64 x 32 = (x * 4294967296) % 18446744073709551616 := by
  rw [shl_u64 (by decide) (by decide)]; rfl
/-- What is above, and what is below. -/
theorem or_disj {a b : Nat} (s : Nat) (hb : b < 2 ^ s) (h : a * 2 ^ s + b < 18446744073709551616) : abits .or .u64 ((a * 2 ^ s : Nat) : Int) b = ((a * 2 ^ s + b : Nat) : Int) := by
  rw [or_u64 _ _ (by omega) (by omega)]
  have := Nat.shiftLeft_add_eq_or_of_lt hb a
  rw [Nat.shiftLeft_eq] at this
  rw [this]
theorem or32 {x y : Int} (h0 : 0 ≤ x) (h1 : x < 4294967296) (h2 : 0 ≤ y) (h3 : y < 4294967296) : abits .or .u64 (x * 4294967296) y = x * 4294967296 + y := by
  obtain ⟨a, rfl⟩ := Int.eq_ofNat_of_zero_le h0
  obtain ⟨b, rfl⟩ := Int.eq_ofNat_of_zero_le h2
  have := or_disj (a := a) (b := b) 32 (by omega) (by omega)
  rw [show (2 : Nat) ^ 32 = 4294967296 from rfl] at this
  have e : ((a : Int) * 4294967296) = ((a * 4294967296 : Nat) : Int) := by omega
  rw [e, this]; omega

/-! Signs -/
theorem bv_neg (x : Int) (h : -9223372036854775808 ≤ x) (h' : x < 9223372036854775808) : (BitVec.ofInt 64 x).msb = decide (x < 0) := by
  rw [BitVec.msb_eq_toInt, BitVec.toInt_ofInt]
  congr 1
  simp only [Int.bmod]
  simp; omega
theorem wrap_bv (b : BitVec 64) : IntKind.i64.wrap (b.toNat : Int) = b.toInt := by
  rw [BitVec.toInt_eq_toNat_cond]
  unfold IntKind.wrap
  simp [IntKind.signed, IntKind.bits]
  have := b.isLt
  split <;> split <;> omega
theorem abits_neg (op : BinOp) (g : Bool → Bool → Bool) (x y : Int) (hg : abits op .i64 x y = IntKind.i64.wrap ((match op with | .and => (BitVec.ofInt 64 x &&& BitVec.ofInt 64 y) | .or => (BitVec.ofInt 64 x ||| BitVec.ofInt 64 y) | _ => (BitVec.ofInt 64 x ^^^ BitVec.ofInt 64 y)).toNat))
    (hm : (match op with | .and => (BitVec.ofInt 64 x &&& BitVec.ofInt 64 y) | .or => (BitVec.ofInt 64 x ||| BitVec.ofInt 64 y) | _ => (BitVec.ofInt 64 x ^^^ BitVec.ofInt 64 y)).msb = g (BitVec.ofInt 64 x).msb (BitVec.ofInt 64 y).msb)
    (hx : -9223372036854775808 ≤ x) (hx' : x < 9223372036854775808) (hy : -9223372036854775808 ≤ y) (hy' : y < 9223372036854775808) : decide (abits op .i64 x y < 0) = g (decide (x < 0)) (decide (y < 0)) := by
  rw [hg, wrap_bv, ← bv_neg x hx hx', ← bv_neg y hy hy', ← hm, BitVec.msb_eq_toInt]
theorem xor_neg (x y : Int) (hx : -9223372036854775808 ≤ x) (hx' : x < 9223372036854775808) (hy : -9223372036854775808 ≤ y) (hy' : y < 9223372036854775808) : decide (abits .xor .i64 x y < 0) = (decide (x < 0) != decide (y < 0)) :=
  abits_neg .xor (· != ·) x y rfl (by simp) hx hx' hy hy'
theorem and_neg (x y : Int) (hx : -9223372036854775808 ≤ x) (hx' : x < 9223372036854775808) (hy : -9223372036854775808 ≤ y) (hy' : y < 9223372036854775808) : decide (abits .and .i64 x y < 0) = (decide (x < 0) && decide (y < 0)) :=
  abits_neg .and (· && ·) x y rfl (by simp) hx hx' hy hy'
theorem abits_range (op : BinOp) (x y : Int) : -9223372036854775808 ≤ abits op .i64 x y ∧ abits op .i64 x y < 9223372036854775808 := by
  unfold abits
  split <;> exact wrap_i64_range _

/-- What is known of a call of the library's whose world stays. -/
theorem CallWP.ofCalls {P : Program} {G : Nat → AVal} {f : FuncId} {args : List AVal} {m : Heap} {v : AVal} (cargs : Array Value) (x : Value) (he : enters P f = true) (h : ∀ w, Calls P f cargs w fun e w' => e = .returned x ∧ w' = w)
    (ha : ∀ (w : World) (c : Array Value), args.length = c.size → (∀ i, i < args.length → VRel m w (args.getD i .undef) (c.getD i Go.undef)) → c = cargs) (hv : ∀ w, VRel m w v x) : CallWP P G f args m fun v' m' => v' = v ∧ m' = m := by
  refine .inl ⟨he, fun w c hs hg hl hr => ?_⟩
  rw [ha w c hl hr]
  refine (h w).mono ?_
  rintro e w' ⟨rfl, rfl⟩
  exact ⟨x, v, m, rfl, ⟨rfl, rfl⟩, hv _, hs, Ext.refl _ _⟩
theorem args_int1 {m : Heap} {w : World} {k : IntKind} {n : Int} {c : Array Value} (hl : [AVal.int k n].length = c.size) (hr : ∀ i, i < [AVal.int k n].length → VRel m w ([AVal.int k n].getD i .undef) (c.getD i Go.undef)) : c = #[.int k n] := by
  obtain ⟨l⟩ := c
  match l, hl, hr with
  | [p], _, hr =>
    have h0 := hr 0 (by simp)
    simp at h0; cases h0; rfl
theorem args_int2 {m : Heap} {w : World} {k k' : IntKind} {n n' : Int} {c : Array Value} (hl : [AVal.int k n, .int k' n'].length = c.size) (hr : ∀ i, i < [AVal.int k n, .int k' n'].length → VRel m w ([AVal.int k n, .int k' n'].getD i .undef) (c.getD i Go.undef)) : c = #[.int k n, .int k' n'] := by
  obtain ⟨l⟩ := c
  match l, hl, hr with
  | [p, q], _, hr =>
    have h0 := hr 0 (by simp); have h1 := hr 1 (by simp)
    simp at h0 h1; cases h0; cases h1; rfl
end Go.Proofs.Ytcdhihoghkkahaa.Ab
