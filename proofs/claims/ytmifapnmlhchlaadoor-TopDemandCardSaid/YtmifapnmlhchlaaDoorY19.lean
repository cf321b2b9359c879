/- What streams ask for together, the program's way: the parts. What streams ask for together, the program's way: the range. What streams ask for together, the program's way. demand.Of. A map's keys, handed out one by one. Which of two numbers is less. A map's keys: the range. -/
import Derived.Test.YtmifapnmlhchlaaDoorY12
set_option linter.all false
namespace Go.Proofs.YtmifapnmlhchlaaDoor
open Go Go.Proofs.YtmifapnmlhchlaaDoor.Ab
open Go.Proofs (Tryd.prog)
set_option maxRecDepth 100000
theorem pdright_spec (G : Nat → AVal) (C : List Stm) (hl : C.length < 9223372036854775808) (n : Int) (v : AVal) (m : Heap) (hs : RdS C v m) (K : AVal → Heap → Prop)
    (hK : ∀ b : Bool, (b = true ↔ rightC C n) → K (.bool b) m) : CallWP Tryd.prog G 23 [v, .int .i64 n] m K := by
  have HK := Hid.mk hK
  clear hK
  refine callWP_body Tryd.func23 rfl (N := 15) rfl (rs := [.tmp 4]) rfl en_23 (of_decide_eq_true rfl) ?_
  repeat' (first | exact tf0 ‹_› | exact tf1 ‹_› | exact False.elim ‹_› | (with_reducible refine Al.intro ?_; intro pb hpb; (try simp only [hupd_none'] at hpb); (repeat rcases hpb with ⟨⟨hpx, hpy⟩, hpb⟩)) | with_reducible refine need ?_ | ((with_reducible first | refine frk0 ?_ ?_ | refine frk1 ?_ ?_ | refine frk2 ?_ ?_ | refine frk3 ?_ ?_ | refine frk4 ?_ ?_ | refine frk5 ?_ ?_ | refine frk6 ?_ ?_ | refine frk7 ?_ ?_ | refine frk8 ?_ ?_ | refine frk9 ?_ ?_) <;> intro h <;> try (exfalso; omega)) | with_reducible refine quiet_and ?_ ?_ | with_reducible refine awp_drawnA mixed (by decide +kernel) ?_ | ((fail_if_success with_reducible refine stp ?_); simp -implicitDefEqProofs only [go_sem, Nat.reduceEqDiff, Nat.reduceAdd, Nat.reduceLT, Nat.reduceMul, Nat.reduceSub, Nat.reduceLeDiff, ↓reduceIte, reduceCtorEq, ↓String.reduceEq, String.reduceNe, Int.reduceToNat, Int.reduceLT, Int.reduceLE, Int.reduceGT, Int.reduceGE, Int.reduceEq, Int.reduceNe, Int.reduceBEq, Int.reduceBNe, Int.reduceAdd, Int.reduceSub, Int.reduceMul, Int.reduceNeg,  *]))
  refine pcheck_spec G C hl n v m hs _ (fun k e he => ?_)
  have HE := Hid.mk he
  clear he
  by_cases h0 : e = 0
  · have HB := Hid.mk (HE.out.1 h0)
    repeat' (first | exact tf0 ‹_› | exact tf1 ‹_› | exact False.elim ‹_› | (with_reducible refine Al.intro ?_; intro pb hpb; (try simp only [hupd_none'] at hpb); (repeat rcases hpb with ⟨⟨hpx, hpy⟩, hpb⟩)) | with_reducible refine need ?_ | ((with_reducible first | refine frk0 ?_ ?_ | refine frk1 ?_ ?_ | refine frk2 ?_ ?_ | refine frk3 ?_ ?_ | refine frk4 ?_ ?_ | refine frk5 ?_ ?_ | refine frk6 ?_ ?_ | refine frk7 ?_ ?_ | refine frk8 ?_ ?_ | refine frk9 ?_ ?_) <;> intro h <;> try (exfalso; omega)) | with_reducible refine quiet_and ?_ ?_ | with_reducible refine awp_drawnA mixed (by decide +kernel) ?_ | ((fail_if_success with_reducible refine stp ?_); simp -implicitDefEqProofs only [go_sem, Nat.reduceEqDiff, Nat.reduceAdd, Nat.reduceLT, Nat.reduceMul, Nat.reduceSub, Nat.reduceLeDiff, ↓reduceIte, reduceCtorEq, ↓String.reduceEq, String.reduceNe, Int.reduceToNat, Int.reduceLT, Int.reduceLE, Int.reduceGT, Int.reduceGE, Int.reduceEq, Int.reduceNe, Int.reduceBEq, Int.reduceBNe, Int.reduceAdd, Int.reduceSub, Int.reduceMul, Int.reduceNeg,  *]))
    exact ⟨_, Sub.refl _, HK.out true ⟨fun _ => HB.out, fun _ => rfl⟩⟩
  · have HB := Hid.mk (fun h => h0 (HE.out.2 h))
    have hq : (e == 0) = false := by simpa using h0
    repeat' (first | exact tf0 ‹_› | exact tf1 ‹_› | exact False.elim ‹_› | (with_reducible refine Al.intro ?_; intro pb hpb; (try simp only [hupd_none'] at hpb); (repeat rcases hpb with ⟨⟨hpx, hpy⟩, hpb⟩)) | with_reducible refine need ?_ | ((with_reducible first | refine frk0 ?_ ?_ | refine frk1 ?_ ?_ | refine frk2 ?_ ?_ | refine frk3 ?_ ?_ | refine frk4 ?_ ?_ | refine frk5 ?_ ?_ | refine frk6 ?_ ?_ | refine frk7 ?_ ?_ | refine frk8 ?_ ?_ | refine frk9 ?_ ?_) <;> intro h <;> try (exfalso; omega)) | with_reducible refine quiet_and ?_ ?_ | with_reducible refine awp_drawnA mixed (by decide +kernel) ?_ | ((fail_if_success with_reducible refine stp ?_); simp -implicitDefEqProofs only [go_sem, Nat.reduceEqDiff, Nat.reduceAdd, Nat.reduceLT, Nat.reduceMul, Nat.reduceSub, Nat.reduceLeDiff, ↓reduceIte, reduceCtorEq, ↓String.reduceEq, String.reduceNe, Int.reduceToNat, Int.reduceLT, Int.reduceLE, Int.reduceGT, Int.reduceGE, Int.reduceEq, Int.reduceNe, Int.reduceBEq, Int.reduceBNe, Int.reduceAdd, Int.reduceSub, Int.reduceMul, Int.reduceNeg,  *]))
    refine ⟨_, Sub.refl _, ?_⟩
    exact HK.out false ⟨fun h => (by cases h), fun h => absurd h HB.out⟩
theorem tdiv_floor (a b : Int) (hb : 0 < b) : (if a.tmod b < 0 then a.tdiv b - 1 else a.tdiv b) = a / b := by
  by_cases ha : 0 ≤ a
  · have h1 : 0 ≤ a.tmod b := Int.tmod_nonneg _ ha
    rw [if_neg (by omega), Int.tdiv_eq_ediv_of_nonneg ha]
  · have e1 := Int.mul_tdiv_add_tmod a b
    have e2 := Int.mul_ediv_add_emod a b
    have m1 := Int.emod_nonneg a (by omega : b ≠ 0)
    have m2 := Int.emod_lt_of_pos a hb
    have t1 : a.tmod b ≤ 0 := by
      have h : (-a).tmod b = - a.tmod b := Int.neg_tmod ..
      have h2 : 0 ≤ (-a).tmod b := Int.tmod_nonneg _ (by omega)
      omega
    have t2 : - b < a.tmod b := by
      have h : (-a).tmod b = - a.tmod b := Int.neg_tmod ..
      have h2 : (-a).tmod b < b := Int.tmod_lt_of_pos _ hb
      omega
    generalize a.tdiv b = q at *
    generalize a.tmod b = r at *
    generalize a / b = q' at *
    generalize a % b = r' at *
    have key : b * (q - q') = r' - r := by rw [Int.mul_sub]; omega
    split
    · have h1 : 0 < b * (q - q') := by omega
      have h2 : b * (q - q') < b * 2 := by omega
      have h3 := Int.lt_of_mul_lt_mul_left h2 (by omega)
      have h4 : 0 < q - q' := by
        rcases Int.lt_trichotomy 0 (q - q') with h | h | h
        · exact h
        · rw [← h] at h1; simp at h1
        · have := Int.mul_neg_of_pos_of_neg hb h; omega
      omega
    · have hr : r = 0 := by omega
      have h2 : b * (q - q') < b * 1 := by omega
      have h3 := Int.lt_of_mul_lt_mul_left h2 (by omega)
      have h4 : 0 ≤ q - q' := by
        rcases Int.lt_or_le (q - q') 0 with h | h
        · have := Int.mul_neg_of_pos_of_neg hb h; omega
        · exact h
      omega
theorem pdiv_spec (G : Nat → AVal) (a b : Int) (hb : 1 ≤ b) (ha : -1099511627776 ≤ a) (ha2 : a ≤ 1099511627776) : Ans G 57 [.int .i64 a, .int .i64 b] (.tuple [.int .i64 (a / b), .bool true]) := by
  intro m
  have n1 : ¬ b < 1 := by omega
  have n2 : ¬ b = 0 := by omega
  have hf := tdiv_floor a b (by omega)
  obtain ⟨q, hq⟩ : ∃ q, a.tdiv b = q := ⟨_, rfl⟩
  obtain ⟨r, hr⟩ : ∃ r, a.tmod b = r := ⟨_, rfl⟩
  have hqb : -1099511627776 ≤ q ∧ q ≤ 1099511627776 := by
    have h := Int.natAbs_tdiv_le_natAbs a b
    rw [hq] at h
    omega
  have w1 : IntKind.i64.wrap q = q := wrap_i64 (by omega) (by omega)
  have w2 : IntKind.i64.wrap (q - 1) = q - 1 := wrap_i64 (by omega) (by omega)
  have w3 : IntKind.i64.wrap r = r := by
    have h : -b < r ∨ True := .inr trivial
    have h2 := Int.mul_tdiv_add_tmod a b
    have h3 : r.natAbs ≤ a.natAbs := by rw [← hr]; rw [Int.natAbs_tmod]; exact Nat.mod_le _ _
    exact wrap_i64 (by omega) (by omega)
  rw [hq, hr] at hf
  have HF := Hid.mk hf
  clear hf hqb ha ha2
  by_cases hn : r < 0
  · have h5 := HF.out
    rw [if_pos hn] at h5
    have H5 := Hid.mk h5
    clear h5
    refine callWP_body Tryd.func57 rfl (N := 19) rfl (rs := [.tmp 4, .tmp 5]) rfl en_57 (of_decide_eq_true rfl) ?_
    repeat' (first | exact tf0 ‹_› | exact tf1 ‹_› | exact False.elim ‹_› | (with_reducible refine Al.intro ?_; intro pb hpb; (try simp only [hupd_none'] at hpb); (repeat rcases hpb with ⟨⟨hpx, hpy⟩, hpb⟩)) | with_reducible refine need ?_ | ((with_reducible first | refine frk0 ?_ ?_ | refine frk1 ?_ ?_ | refine frk2 ?_ ?_ | refine frk3 ?_ ?_ | refine frk4 ?_ ?_ | refine frk5 ?_ ?_ | refine frk6 ?_ ?_ | refine frk7 ?_ ?_ | refine frk8 ?_ ?_ | refine frk9 ?_ ?_) <;> intro h <;> try (exfalso; omega)) | with_reducible refine quiet_and ?_ ?_ | with_reducible refine awp_drawnA mixed (by decide +kernel) ?_ | ((fail_if_success with_reducible refine stp ?_); simp -implicitDefEqProofs only [go_sem, Nat.reduceEqDiff, Nat.reduceAdd, Nat.reduceLT, Nat.reduceMul, Nat.reduceSub, Nat.reduceLeDiff, ↓reduceIte, reduceCtorEq, ↓String.reduceEq, String.reduceNe, Int.reduceToNat, Int.reduceLT, Int.reduceLE, Int.reduceGT, Int.reduceGE, Int.reduceEq, Int.reduceNe, Int.reduceBEq, Int.reduceBNe, Int.reduceAdd, Int.reduceSub, Int.reduceMul, Int.reduceNeg,  *]))
    refine ⟨m, (by (repeat refine Sub.fresh ?_ (by assumption)); exact Sub.refl m), ?_, rfl⟩
    rw [H5.out]
  · have h5 := HF.out
    rw [if_neg hn] at h5
    have H5 := Hid.mk h5
    clear h5
    refine callWP_body Tryd.func57 rfl (N := 19) rfl (rs := [.tmp 4, .tmp 5]) rfl en_57 (of_decide_eq_true rfl) ?_
    repeat' (first | exact tf0 ‹_› | exact tf1 ‹_› | exact False.elim ‹_› | (with_reducible refine Al.intro ?_; intro pb hpb; (try simp only [hupd_none'] at hpb); (repeat rcases hpb with ⟨⟨hpx, hpy⟩, hpb⟩)) | with_reducible refine need ?_ | ((with_reducible first | refine frk0 ?_ ?_ | refine frk1 ?_ ?_ | refine frk2 ?_ ?_ | refine frk3 ?_ ?_ | refine frk4 ?_ ?_ | refine frk5 ?_ ?_ | refine frk6 ?_ ?_ | refine frk7 ?_ ?_ | refine frk8 ?_ ?_ | refine frk9 ?_ ?_) <;> intro h <;> try (exfalso; omega)) | with_reducible refine quiet_and ?_ ?_ | with_reducible refine awp_drawnA mixed (by decide +kernel) ?_ | ((fail_if_success with_reducible refine stp ?_); simp -implicitDefEqProofs only [go_sem, Nat.reduceEqDiff, Nat.reduceAdd, Nat.reduceLT, Nat.reduceMul, Nat.reduceSub, Nat.reduceLeDiff, ↓reduceIte, reduceCtorEq, ↓String.reduceEq, String.reduceNe, Int.reduceToNat, Int.reduceLT, Int.reduceLE, Int.reduceGT, Int.reduceGE, Int.reduceEq, Int.reduceNe, Int.reduceBEq, Int.reduceBNe, Int.reduceAdd, Int.reduceSub, Int.reduceMul, Int.reduceNeg,  *]))
    refine ⟨m, (by (repeat refine Sub.fresh ?_ (by assumption)); exact Sub.refl m), ?_, rfl⟩
    rw [H5.out]
end Go.Proofs.YtmifapnmlhchlaaDoor
namespace Go.Proofs.YtmifapnmlhchlaaDoor
open Go Go.Proofs.YtmifapnmlhchlaaDoor.Ab
open Go.Proofs (Tryd.prog)
set_option maxRecDepth 100000
/-- How many frames. -/
def jobsF (s : Stm) (span n : Int) : Int := if 0 ≤ span + n - 1 - s.2.2.2.2.1 then (span + n - 1 - s.2.2.2.2.1) / s.2.2.2.1 + 1 else 0
theorem pjobs_spec (G : Nat → AVal) (x : Stm) (hr : rightS x = 0) (span n : Int) (h1 : 1 ≤ span) (h2 : span ≤ 65536) (hn1 : 1 ≤ n) (hn : n ≤ 1073741824) : Ans G 36 [.agg (encSc x), .int .i64 span, .int .i64 n] (.int .i64 (jobsF x span n)) := by
  intro m
  have hr2 := rightS_zero.1 hr
  obtain ⟨d, hd⟩ : ∃ d, x.2.2.2.2.1 = d := ⟨_, rfl⟩
  obtain ⟨p, hp⟩ : ∃ p, x.2.2.2.1 = p := ⟨_, rfl⟩
  have hjb : jobsF x span n = if 0 ≤ span + n - 1 - d then (span + n - 1 - d) / p + 1 else 0 := by unfold jobsF; rw [hd, hp]
  rw [hd, hp] at hr2
  have w1 : IntKind.i64.wrap (span + n) = span + n := wrap_i64 (by omega) (by omega)
  have w2 : IntKind.i64.wrap (span + n - 1) = span + n - 1 := wrap_i64 (by omega) (by omega)
  have w3 : IntKind.i64.wrap (span + n - 1 - d) = span + n - 1 - d := wrap_i64 (by omega) (by omega)
  obtain ⟨q, hq⟩ : ∃ q, q = (span + n - 1 - d) / p := ⟨_, rfl⟩
  have hqb : -1099511627776 ≤ q ∧ q ≤ 1099511627776 := by
    have e := Int.mul_ediv_add_emod (span + n - 1 - d) p
    have e1 := Int.emod_nonneg (span + n - 1 - d) (by omega : p ≠ 0)
    rw [← hq] at e
    have h := Int.natAbs_ediv_le_natAbs (span + n - 1 - d) p
    rw [← hq] at h
    omega
  have w4 : IntKind.i64.wrap (q + 1) = q + 1 := wrap_i64 (by omega) (by omega)
  have hmx : imx (q + 1) 0 = jobsF x span n := by
    rw [hjb, ← hq]
    unfold imx
    by_cases h0 : 0 ≤ span + n - 1 - d
    · have : 0 ≤ q := by rw [hq]; exact Int.ediv_nonneg h0 (by omega)
      rw [if_pos h0, if_neg (by omega)]
    · have : q < 0 := by rw [hq]; exact Int.ediv_neg_of_neg_of_pos (by omega) (by omega)
      rw [if_neg h0]
      split <;> omega
  have HD := Hid.mk (pdiv_spec G (span + n - 1 - d) p (by omega) (by omega) (by omega))
  rw [← hq] at HD
  obtain ⟨r, hr3⟩ : ∃ r, jobsF x span n = r := ⟨_, rfl⟩
  rw [hr3] at hmx ⊢
  have HX := Hid.mk (And.intro hd hp)
  clear hr hr2 hjb hqb hq hr3 hd hp h1 h2 hn1 hn
  refine callWP_body Tryd.func36 rfl (N := 25) rfl (rs := [.tmp 6]) rfl en_36 (of_decide_eq_true rfl) ?_
  repeat' (first | exact tf0 ‹_› | exact tf1 ‹_› | exact False.elim ‹_› | (with_reducible refine Al.intro ?_; intro pb hpb; (try simp only [hupd_none'] at hpb); (repeat rcases hpb with ⟨⟨hpx, hpy⟩, hpb⟩)) | with_reducible refine need ?_ | ((with_reducible first | refine frk0 ?_ ?_ | refine frk1 ?_ ?_ | refine frk2 ?_ ?_ | refine frk3 ?_ ?_ | refine frk4 ?_ ?_ | refine frk5 ?_ ?_ | refine frk6 ?_ ?_ | refine frk7 ?_ ?_ | refine frk8 ?_ ?_ | refine frk9 ?_ ?_) <;> intro h <;> try (exfalso; omega)) | with_reducible refine quiet_and ?_ ?_ | with_reducible refine awp_drawnA mixed (by decide +kernel) ?_ | ((fail_if_success with_reducible refine stp ?_); simp -implicitDefEqProofs only [go_sem, Nat.reduceEqDiff, Nat.reduceAdd, Nat.reduceLT, Nat.reduceMul, Nat.reduceSub, Nat.reduceLeDiff, ↓reduceIte, reduceCtorEq, ↓String.reduceEq, String.reduceNe, Int.reduceToNat, Int.reduceLT, Int.reduceLE, Int.reduceGT, Int.reduceGE, Int.reduceEq, Int.reduceNe, Int.reduceBEq, Int.reduceBNe, Int.reduceAdd, Int.reduceSub, Int.reduceMul, Int.reduceNeg,  encSc, *]))
  rw [HX.out.1, HX.out.2]
  rw [w3]
  refine CallWP.to (HD.out _) ?_
  repeat' (first | exact tf0 ‹_› | exact tf1 ‹_› | exact False.elim ‹_› | (with_reducible refine Al.intro ?_; intro pb hpb; (try simp only [hupd_none'] at hpb); (repeat rcases hpb with ⟨⟨hpx, hpy⟩, hpb⟩)) | with_reducible refine need ?_ | ((with_reducible first | refine frk0 ?_ ?_ | refine frk1 ?_ ?_ | refine frk2 ?_ ?_ | refine frk3 ?_ ?_ | refine frk4 ?_ ?_ | refine frk5 ?_ ?_ | refine frk6 ?_ ?_ | refine frk7 ?_ ?_ | refine frk8 ?_ ?_ | refine frk9 ?_ ?_) <;> intro h <;> try (exfalso; omega)) | with_reducible refine quiet_and ?_ ?_ | with_reducible refine awp_drawnA mixed (by decide +kernel) ?_ | ((fail_if_success with_reducible refine stp ?_); simp -implicitDefEqProofs only [go_sem, Nat.reduceEqDiff, Nat.reduceAdd, Nat.reduceLT, Nat.reduceMul, Nat.reduceSub, Nat.reduceLeDiff, ↓reduceIte, reduceCtorEq, ↓String.reduceEq, String.reduceNe, Int.reduceToNat, Int.reduceLT, Int.reduceLE, Int.reduceGT, Int.reduceGE, Int.reduceEq, Int.reduceNe, Int.reduceBEq, Int.reduceBNe, Int.reduceAdd, Int.reduceSub, Int.reduceMul, Int.reduceNeg,  *]))
  refine ⟨m, (by (repeat refine Sub.fresh ?_ (by assumption)); exact Sub.refl m), ?_, rfl⟩
  try rfl
  try rw [hmx]
/-- Whatever is done with each stream of the first class. -/
theorem pdue1_spec (G : Nat → AVal) (C : List Stm) (hl : C.length ≤ 1000) (v : AVal) {l pv : Nat} {m0 m : Heap} (I : Nat → Heap → Prop) (K : AVal → Heap → Prop)
    (h0 : I 0 m) (hpv : m pv = some (.cells [v] 1)) (hs : RdS C v m0) (hsub : ∀ i m', I i m' → Sub m0 m')
    (hfresh : ∀ i m' b x, I i m' → m' b = none → I i (hupd m' b x))
    (hgo : ∀ i, i < C.length → (C.getD i default).2.2.1 = 1 → ∀ m', I i m' → YieldWP Tryd.prog G l [.agg (encSc (C.getD i default))] m' fun r m'' => r = .bool true ∧ I (i + 1) m'')
    (hskip : ∀ i, i < C.length → (C.getD i default).2.2.1 ≠ 1 → ∀ m', I i m' → I (i + 1) m')
    (hK : ∀ m', I C.length m' → K (.tuple []) m') : CallWP Tryd.prog G 44 [.func (.yield l) [] [], .ptr pv 0] m K := by
  obtain ⟨L, hL⟩ : ∃ L, L = C.length := ⟨_, rfl⟩
  have H0 := Hid.mk hL
  have ll : (C.map encS).length = L := by rw [List.length_map]; exact hL.symm
  obtain ⟨b, pre, post, N, cap, hw⟩ := hs.ways hL
  have lL : L ≤ 1000 := by omega
  have hpv2 := hpv
  have HF := Hid.mk (And.intro hgo (And.intro hskip (And.intro hfresh hsub)))
  have HK := Hid.mk hK
  have HI0 := Hid.mk h0
  clear hs hL hl hgo hskip hfresh hsub hK h0 hpv
  rcases hw with ⟨hv, hz⟩ | ⟨hv, hb⟩ | hv
  all_goals (
    refine callWP_body Tryd.func44 rfl (N := 21) rfl (rs := []) rfl en_44 (of_decide_eq_true rfl) ?_
    repeat' (first | exact tf0 ‹_› | exact tf1 ‹_› | exact False.elim ‹_› | (with_reducible refine Al.intro ?_; intro pb hpb; (try simp only [hupd_none'] at hpb); (repeat rcases hpb with ⟨⟨hpx, hpy⟩, hpb⟩)) | with_reducible refine need ?_ | ((with_reducible first | refine frk0 ?_ ?_ | refine frk1 ?_ ?_ | refine frk2 ?_ ?_ | refine frk3 ?_ ?_ | refine frk4 ?_ ?_ | refine frk5 ?_ ?_ | refine frk6 ?_ ?_ | refine frk7 ?_ ?_ | refine frk8 ?_ ?_ | refine frk9 ?_ ?_) <;> intro h <;> try (exfalso; omega)) | with_reducible refine quiet_and ?_ ?_ | with_reducible refine awp_drawnA mixed (by decide +kernel) ?_ | ((fail_if_success with_reducible refine stp ?_); simp -implicitDefEqProofs only [go_sem, Nat.reduceEqDiff, Nat.reduceAdd, Nat.reduceLT, Nat.reduceMul, Nat.reduceSub, Nat.reduceLeDiff, ↓reduceIte, reduceCtorEq, ↓String.reduceEq, String.reduceNe, Int.reduceToNat, Int.reduceLT, Int.reduceLE, Int.reduceGT, Int.reduceGE, Int.reduceEq, Int.reduceNe, Int.reduceBEq, Int.reduceBNe, Int.reduceAdd, Int.reduceSub, Int.reduceMul, Int.reduceNeg,  *]))
    clear hpv2
    refine awp_loopP 0 (fun ts m' => Hid (I L m')) (fun k ts m' => ∃ i : Nat, Hid (k = L - i ∧ i ≤ L ∧ I i m') ∧ ts 0 = .func (.yield l) [] [] ∧ ts 5 = v ∧ ts 6 = .int .i64 (L : Nat) ∧ ts 7 = .int .i64 (i : Nat)) L ⟨0, .mk ⟨rfl, Nat.zero_le _, HI0.out⟩, ttt, by simp [upd, hv], by simp [upd, hv, ll, *], ttt⟩ ?_ ?_
    · rintro k ts m2 ⟨i, H, t0, t5, t6, t7⟩
      by_cases hi : i < L
      · have lt : (i : Int) < (L : Int) := by omega
        have hiC : i < C.length := by have := H0.out; omega
        have hF1 := HF.out.1 i hiC
        have hF2 := HF.out.2.1 i hiC
        obtain ⟨x, hx⟩ : ∃ x, C.getD i default = x := ⟨_, rfl⟩
        rw [hx] at hF1 hF2
        have HF1 := Hid.mk (And.intro hF1 hF2)
        have g1 := sm_at C pre post i hiC x hx
        have g2 := sm_lst C i hiC x hx
        have l1 := sm_len C pre post i hiC
        have w1 : IntKind.i64.wrap ((i : Int) + 1) = ((i + 1 : Nat) : Int) := by rw [wrap_i64 (by omega) (by omega)]; omega
        try (have hb2 := HF.out.2.2.2 _ _ H.out.2.2 _ _ hb)
        clear hx hiC hF1 hF2
        by_cases hc : x.2.2.1 = 1
        · have HC := Hid.mk hc
          have hc2 : (x.2.2.1 == 1) = true := by simpa using hc
          clear hc
          repeat' (first | exact tf0 ‹_› | exact tf1 ‹_› | exact False.elim ‹_› | (with_reducible refine Al.intro ?_; intro pb hpb; (try simp only [hupd_none'] at hpb); (repeat rcases hpb with ⟨⟨hpx, hpy⟩, hpb⟩)) | with_reducible refine need ?_ | ((with_reducible first | refine frk0 ?_ ?_ | refine frk1 ?_ ?_ | refine frk2 ?_ ?_ | refine frk3 ?_ ?_ | refine frk4 ?_ ?_ | refine frk5 ?_ ?_ | refine frk6 ?_ ?_ | refine frk7 ?_ ?_ | refine frk8 ?_ ?_ | refine frk9 ?_ ?_) <;> intro h <;> try (exfalso; omega)) | with_reducible refine quiet_and ?_ ?_ | with_reducible refine awp_drawnA mixed (by decide +kernel) ?_ | ((fail_if_success with_reducible refine stp ?_); simp -implicitDefEqProofs only [go_sem, Nat.reduceEqDiff, Nat.reduceAdd, Nat.reduceLT, Nat.reduceMul, Nat.reduceSub, Nat.reduceLeDiff, ↓reduceIte, reduceCtorEq, ↓String.reduceEq, String.reduceNe, Int.reduceToNat, Int.reduceLT, Int.reduceLE, Int.reduceGT, Int.reduceGE, Int.reduceEq, Int.reduceNe, Int.reduceBEq, Int.reduceBNe, Int.reduceAdd, Int.reduceSub, Int.reduceMul, Int.reduceNeg,  *]))
          all_goals (
            have hsm : ∀ y, I i (hupd m2 pb y) := fun y => HF.out.2.2.1 i m2 pb y H.out.2.2 hpb
            have HSM := Hid.mk hsm
            clear hsm
            have fr : ∀ y, y ≠ pb → hupd m2 pb (.cells (encSc x) 7) y = m2 y := fun y hy => by rw [hupd_ne hy]
            clear fr
            refine YieldWP.mono (HF1.out.1 HC.out _ (HSM.out _)) ?_
            rintro r m3 ⟨rfl, hI⟩
            have HI3 := Hid.mk hI
            clear hI hpb
            try clear hb2
            repeat' (first | exact tf0 ‹_› | exact tf1 ‹_› | exact False.elim ‹_› | (with_reducible refine Al.intro ?_; intro pb hpb; (try simp only [hupd_none'] at hpb); (repeat rcases hpb with ⟨⟨hpx, hpy⟩, hpb⟩)) | with_reducible refine need ?_ | ((with_reducible first | refine frk0 ?_ ?_ | refine frk1 ?_ ?_ | refine frk2 ?_ ?_ | refine frk3 ?_ ?_ | refine frk4 ?_ ?_ | refine frk5 ?_ ?_ | refine frk6 ?_ ?_ | refine frk7 ?_ ?_ | refine frk8 ?_ ?_ | refine frk9 ?_ ?_) <;> intro h <;> try (exfalso; omega)) | with_reducible refine quiet_and ?_ ?_ | with_reducible refine awp_drawnA mixed (by decide +kernel) ?_ | ((fail_if_success with_reducible refine stp ?_); simp -implicitDefEqProofs only [go_sem, Nat.reduceEqDiff, Nat.reduceAdd, Nat.reduceLT, Nat.reduceMul, Nat.reduceSub, Nat.reduceLeDiff, ↓reduceIte, reduceCtorEq, ↓String.reduceEq, String.reduceNe, Int.reduceToNat, Int.reduceLT, Int.reduceLE, Int.reduceGT, Int.reduceGE, Int.reduceEq, Int.reduceNe, Int.reduceBEq, Int.reduceBNe, Int.reduceAdd, Int.reduceSub, Int.reduceMul, Int.reduceNeg,  *]))
            exact Again.intro ⟨L - (i + 1), by have := H.out; omega, _, Sub.refl _, i + 1, .mk ⟨rfl, by omega, HI3.out⟩, (by first | (simp only [upd, put, Nat.reduceEqDiff, ↓reduceIte, t0]; done) | (simp [upd, put, t0]; done) | rfl | (simp [upd, put, t0]; rfl)), (by first | (simp only [upd, put, Nat.reduceEqDiff, ↓reduceIte, t5, hv]; done) | (simp [upd, put, t5, hv]; done) | rfl | (simp [upd, put, t5, hv]; rfl)), (by first | (simp only [upd, put, Nat.reduceEqDiff, ↓reduceIte, t6]; done) | (simp [upd, put, t6]; done) | rfl | (simp [upd, put, t6]; rfl)), ttt⟩)
        · have HC := Hid.mk hc
          have hc2 : (x.2.2.1 == 1) = false := by simpa using hc
          clear hc
          repeat' (first | exact tf0 ‹_› | exact tf1 ‹_› | exact False.elim ‹_› | (with_reducible refine Al.intro ?_; intro pb hpb; (try simp only [hupd_none'] at hpb); (repeat rcases hpb with ⟨⟨hpx, hpy⟩, hpb⟩)) | with_reducible refine need ?_ | ((with_reducible first | refine frk0 ?_ ?_ | refine frk1 ?_ ?_ | refine frk2 ?_ ?_ | refine frk3 ?_ ?_ | refine frk4 ?_ ?_ | refine frk5 ?_ ?_ | refine frk6 ?_ ?_ | refine frk7 ?_ ?_ | refine frk8 ?_ ?_ | refine frk9 ?_ ?_) <;> intro h <;> try (exfalso; omega)) | with_reducible refine quiet_and ?_ ?_ | with_reducible refine awp_drawnA mixed (by decide +kernel) ?_ | ((fail_if_success with_reducible refine stp ?_); simp -implicitDefEqProofs only [go_sem, Nat.reduceEqDiff, Nat.reduceAdd, Nat.reduceLT, Nat.reduceMul, Nat.reduceSub, Nat.reduceLeDiff, ↓reduceIte, reduceCtorEq, ↓String.reduceEq, String.reduceNe, Int.reduceToNat, Int.reduceLT, Int.reduceLE, Int.reduceGT, Int.reduceGE, Int.reduceEq, Int.reduceNe, Int.reduceBEq, Int.reduceBNe, Int.reduceAdd, Int.reduceSub, Int.reduceMul, Int.reduceNeg,  *]))
          all_goals (
            have hsm : ∀ y, I (i + 1) (hupd m2 pb y) := fun y => HF1.out.2 HC.out _ (HF.out.2.2.1 i m2 pb y H.out.2.2 hpb)
            exact Again.intro ⟨L - (i + 1), by have := H.out; omega, _, Sub.refl _, i + 1, .mk ⟨rfl, by omega, hsm _⟩, (by first | (simp only [upd, put, Nat.reduceEqDiff, ↓reduceIte, t0]; done) | (simp [upd, put, t0]; done) | rfl | (simp [upd, put, t0]; rfl)), (by first | (simp only [upd, put, Nat.reduceEqDiff, ↓reduceIte, t5, hv]; done) | (simp [upd, put, t5, hv]; done) | rfl | (simp [upd, put, t5, hv]; rfl)), (by first | (simp only [upd, put, Nat.reduceEqDiff, ↓reduceIte, t6]; done) | (simp [upd, put, t6]; done) | rfl | (simp [upd, put, t6]; rfl)), ttt⟩)
      · have lt : ¬ (i : Int) < (L : Int) := by omega
        repeat' (first | exact tf0 ‹_› | exact tf1 ‹_› | exact False.elim ‹_› | (with_reducible refine Al.intro ?_; intro pb hpb; (try simp only [hupd_none'] at hpb); (repeat rcases hpb with ⟨⟨hpx, hpy⟩, hpb⟩)) | with_reducible refine need ?_ | ((with_reducible first | refine frk0 ?_ ?_ | refine frk1 ?_ ?_ | refine frk2 ?_ ?_ | refine frk3 ?_ ?_ | refine frk4 ?_ ?_ | refine frk5 ?_ ?_ | refine frk6 ?_ ?_ | refine frk7 ?_ ?_ | refine frk8 ?_ ?_ | refine frk9 ?_ ?_) <;> intro h <;> try (exfalso; omega)) | with_reducible refine quiet_and ?_ ?_ | with_reducible refine awp_drawnA mixed (by decide +kernel) ?_ | ((fail_if_success with_reducible refine stp ?_); simp -implicitDefEqProofs only [go_sem, Nat.reduceEqDiff, Nat.reduceAdd, Nat.reduceLT, Nat.reduceMul, Nat.reduceSub, Nat.reduceLeDiff, ↓reduceIte, reduceCtorEq, ↓String.reduceEq, String.reduceNe, Int.reduceToNat, Int.reduceLT, Int.reduceLE, Int.reduceGT, Int.reduceGE, Int.reduceEq, Int.reduceNe, Int.reduceBEq, Int.reduceBNe, Int.reduceAdd, Int.reduceSub, Int.reduceMul, Int.reduceNeg,  *]))
        exact Again.intro (.mk (by have h := H.out.2.2; rw [show i = L by have := H.out; omega] at h; first | exact h | (rw [hz] at h; exact h)))
    · rintro ts m2 H
      repeat' (first | exact tf0 ‹_› | exact tf1 ‹_› | exact False.elim ‹_› | (with_reducible refine Al.intro ?_; intro pb hpb; (try simp only [hupd_none'] at hpb); (repeat rcases hpb with ⟨⟨hpx, hpy⟩, hpb⟩)) | with_reducible refine need ?_ | ((with_reducible first | refine frk0 ?_ ?_ | refine frk1 ?_ ?_ | refine frk2 ?_ ?_ | refine frk3 ?_ ?_ | refine frk4 ?_ ?_ | refine frk5 ?_ ?_ | refine frk6 ?_ ?_ | refine frk7 ?_ ?_ | refine frk8 ?_ ?_ | refine frk9 ?_ ?_) <;> intro h <;> try (exfalso; omega)) | with_reducible refine quiet_and ?_ ?_ | with_reducible refine awp_drawnA mixed (by decide +kernel) ?_ | ((fail_if_success with_reducible refine stp ?_); simp -implicitDefEqProofs only [go_sem, Nat.reduceEqDiff, Nat.reduceAdd, Nat.reduceLT, Nat.reduceMul, Nat.reduceSub, Nat.reduceLeDiff, ↓reduceIte, reduceCtorEq, ↓String.reduceEq, String.reduceNe, Int.reduceToNat, Int.reduceLT, Int.reduceLE, Int.reduceGT, Int.reduceGE, Int.reduceEq, Int.reduceNe, Int.reduceBEq, Int.reduceBNe, Int.reduceAdd, Int.reduceSub, Int.reduceMul, Int.reduceNeg,  *]))
      exact ⟨_, Sub.refl _, HK.out _ (by rw [← H0.out]; exact H.out)⟩)
end Go.Proofs.YtmifapnmlhchlaaDoor
namespace Go.Proofs.YtmifapnmlhchlaaDoor
open Go Go.Proofs.YtmifapnmlhchlaaDoor.Ab
open Go.Proofs (Tryd.prog)
set_option maxRecDepth 100000
theorem pdue_spec (G : Nat → AVal) (C : List Stm) (v : AVal) (m : Heap) (hs : RdS C v m) (K : AVal → Heap → Prop)
    (hK : ∀ pv, m pv = none → K (.func (.func 44) [] [.ptr pv 0]) (hupd m pv (.cells [v] 1))) : CallWP Tryd.prog G 32 [v] m K := by
  have HK := Hid.mk hK
  clear hK
  obtain ⟨b, pre, post, N, cap, hw⟩ := hs.ways rfl
  clear hs
  rcases hw with ⟨rfl, hz⟩ | ⟨rfl, hb⟩ | rfl
  all_goals (
    refine callWP_body Tryd.func32 rfl (N := 4) rfl (rs := [.tmp 2]) rfl en_32 (of_decide_eq_true rfl) ?_
    repeat' (first | exact tf0 ‹_› | exact tf1 ‹_› | exact False.elim ‹_› | (with_reducible refine Al.intro ?_; intro pb hpb; (try simp only [hupd_none'] at hpb); (repeat rcases hpb with ⟨⟨hpx, hpy⟩, hpb⟩)) | with_reducible refine need ?_ | ((with_reducible first | refine frk0 ?_ ?_ | refine frk1 ?_ ?_ | refine frk2 ?_ ?_ | refine frk3 ?_ ?_ | refine frk4 ?_ ?_ | refine frk5 ?_ ?_ | refine frk6 ?_ ?_ | refine frk7 ?_ ?_ | refine frk8 ?_ ?_ | refine frk9 ?_ ?_) <;> intro h <;> try (exfalso; omega)) | with_reducible refine quiet_and ?_ ?_ | with_reducible refine awp_drawnA mixed (by decide +kernel) ?_ | ((fail_if_success with_reducible refine stp ?_); simp -implicitDefEqProofs only [go_sem, Nat.reduceEqDiff, Nat.reduceAdd, Nat.reduceLT, Nat.reduceMul, Nat.reduceSub, Nat.reduceLeDiff, ↓reduceIte, reduceCtorEq, ↓String.reduceEq, String.reduceNe, Int.reduceToNat, Int.reduceLT, Int.reduceLE, Int.reduceGT, Int.reduceGE, Int.reduceEq, Int.reduceNe, Int.reduceBEq, Int.reduceBNe, Int.reduceAdd, Int.reduceSub, Int.reduceMul, Int.reduceNeg,  *]))
    refine ⟨_, Sub.refl _, HK.out pb hpb⟩)
theorem jobs_dem {s : Stm} (h : rightS s = 0) (hc : s.2.2.1 = 1) (span n : Int) : jobsF s span n * costS s = demS s span n := by
  unfold jobsF demS
  by_cases h0 : 0 ≤ span + n - 1 - s.2.2.2.2.1
  · rw [if_pos h0, if_pos ⟨hc, h0⟩, Int.tdiv_eq_ediv_of_nonneg h0]
  · rw [if_neg h0, if_neg (fun h => h0 h.2), Int.zero_mul]
theorem dem_skip {s : Stm} (hc : s.2.2.1 ≠ 1) (span n : Int) : demS s span n = 0 := by
  unfold demS; rw [if_neg (fun h => hc h.1)]
theorem awp_range' {P : Program} {G : Nat → AVal} {N : Nat} {g : Operand} {ps : Array Tmp} {a b : Code} {Q : Exit → TS → Heap → Prop} {ts : TS} {m : Heap} {gf : FuncId} {fs cs : List AVal} (hge : ev G ts g = .func (.func gf) fs cs) (hen : enters P gf = true)
    (h : ∀ l LB, Hid (LB = ABlk.loop N ts ps a b .ready none) → m l = none → CallWP P G gf (fs ++ [.func (.yield l) [] []] ++ cs) (hupd m l LB) (rangeA P G N none Q ts l)) : AWP P G N none (.rangeFunc g ps a b) Q ts m := awp_range hge hen (fun l hl => h l _ (.mk rfl) hl)
theorem kept {m : Heap} {a b : Nat} {x y : ABlk} (h : m a = some y) (hb : m b = none) : hupd m b x a = some y := by
  rw [hupd_ne (fun e => by rw [e, hb] at h; cases h)]; exact h
set_option maxHeartbeats 4000000 in
theorem pof_spec (G : Nat → AVal) (hG : DivOK G) (C : List Stm) (span n : Int) (hr : rightC C n) (h1 : 1 ≤ span) (h2 : span ≤ 65536) (v : AVal) (m : Heap) (hs : RdS C v m) : CallWP Tryd.prog G 24 [v, .int .i64 span, .int .i64 n] m fun v' m' => v' = .int .i64 (demF C span n) ∧ m' = m := by
  have HG := Hid.mk (And.intro hG (And.intro hr (And.intro h1 (And.intro h2 hs))))
  obtain ⟨b, pre, post, N, cap, hw⟩ := hs.ways rfl
  clear hs hG hr h1 h2
  rcases hw with ⟨hv, hz⟩ | ⟨hv, hb⟩ | hv
  all_goals (
    refine callWP_body Tryd.func24 rfl (N := 22) rfl (rs := [.tmp 6]) rfl en_24 (of_decide_eq_true rfl) ?_
    repeat' (first | exact tf0 ‹_› | exact tf1 ‹_› | exact False.elim ‹_› | (with_reducible refine Al.intro ?_; intro pb hpb; (try simp only [hupd_none'] at hpb); (repeat rcases hpb with ⟨⟨hpx, hpy⟩, hpb⟩)) | with_reducible refine need ?_ | ((with_reducible first | refine frk0 ?_ ?_ | refine frk1 ?_ ?_ | refine frk2 ?_ ?_ | refine frk3 ?_ ?_ | refine frk4 ?_ ?_ | refine frk5 ?_ ?_ | refine frk6 ?_ ?_ | refine frk7 ?_ ?_ | refine frk8 ?_ ?_ | refine frk9 ?_ ?_) <;> intro h <;> try (exfalso; omega)) | with_reducible refine quiet_and ?_ ?_ | with_reducible refine awp_drawnA mixed (by decide +kernel) ?_ | ((fail_if_success with_reducible refine stp ?_); simp -implicitDefEqProofs only [go_sem, Nat.reduceEqDiff, Nat.reduceAdd, Nat.reduceLT, Nat.reduceMul, Nat.reduceSub, Nat.reduceLeDiff, ↓reduceIte, reduceCtorEq, ↓String.reduceEq, String.reduceNe, Int.reduceToNat, Int.reduceLT, Int.reduceLE, Int.reduceGT, Int.reduceGE, Int.reduceEq, Int.reduceNe, Int.reduceBEq, Int.reduceBNe, Int.reduceAdd, Int.reduceSub, Int.reduceMul, Int.reduceNeg,  *]))
    rename_i p4 e4 p5 e5 n54 n45 n75 n57
    obtain ⟨p7, e7⟩ : ∃ p, p = pb := ⟨_, rfl⟩
    subst e7
    have HN := Hid.mk (And.intro e4 (And.intro e5 hpb))
    have n74 := hpx
    have n47 := hpy
    clear e4 e5 hpb hpx hpy
    refine pdue_spec G C _ _ (by rw [← hv]; exact HG.out.2.2.2.2.into (((((Sub.refl _).fresh HN.out.1).fresh HN.out.2.1).fresh HN.out.2.2))) _ (fun pv hpv => ?_)
    simp only [hupd_none'] at hpv
    obtain ⟨⟨q1, q2⟩, ⟨q3, q4⟩, ⟨q5, q6⟩, q7⟩ := hpv
    have HV := Hid.mk q7
    clear q7
    repeat' (first | exact tf0 ‹_› | exact tf1 ‹_› | exact False.elim ‹_› | (with_reducible refine Al.intro ?_; intro pb hpb; (try simp only [hupd_none'] at hpb); (repeat rcases hpb with ⟨⟨hpx, hpy⟩, hpb⟩)) | with_reducible refine need ?_ | ((with_reducible first | refine frk0 ?_ ?_ | refine frk1 ?_ ?_ | refine frk2 ?_ ?_ | refine frk3 ?_ ?_ | refine frk4 ?_ ?_ | refine frk5 ?_ ?_ | refine frk6 ?_ ?_ | refine frk7 ?_ ?_ | refine frk8 ?_ ?_ | refine frk9 ?_ ?_) <;> intro h <;> try (exfalso; omega)) | with_reducible refine quiet_and ?_ ?_ | with_reducible refine awp_drawnA mixed (by decide +kernel) ?_ | ((fail_if_success with_reducible refine stp ?_); simp -implicitDefEqProofs only [go_sem, Nat.reduceEqDiff, Nat.reduceAdd, Nat.reduceLT, Nat.reduceMul, Nat.reduceSub, Nat.reduceLeDiff, ↓reduceIte, reduceCtorEq, ↓String.reduceEq, String.reduceNe, Int.reduceToNat, Int.reduceLT, Int.reduceLE, Int.reduceGT, Int.reduceGE, Int.reduceEq, Int.reduceNe, Int.reduceBEq, Int.reduceBNe, Int.reduceAdd, Int.reduceSub, Int.reduceMul, Int.reduceNeg,  *]))
    refine awp_range' (gf := 44) (fs := []) (cs := [.ptr pv 0]) (by rfl) en_44 (fun l LB HLB hl => ?_)
    simp only [hupd_none'] at hl
    obtain ⟨⟨r1, r2⟩, ⟨r3, r4⟩, ⟨r5, r6⟩, ⟨r7, r8⟩, r9⟩ := hl
    have HL := Hid.mk r9
    clear r9
    refine pdue1_spec G C (by have := HG.out.2.1.1; omega) v (m0 := m) (fun i m' => m' l = some LB ∧ m' p4 = some (.cells [.int .i64 span] 1) ∧ m' p5 = some (.cells [.int .i64 n] 1) ∧ m' p7 = some (.cells [.int .i64 (demF (C.take i) span n)] 1) ∧ Sub m m') _ ?_ ?_ HG.out.2.2.2.2 (fun i m' h => h.2.2.2.2) (fun i m' b x h hb => ⟨kept h.1 hb, kept h.2.1 hb, kept h.2.2.1 hb, kept h.2.2.2.1 hb, h.2.2.2.2.fresh (h.2.2.2.2.gone hb)⟩) ?_ ?_ ?_
    · exact ⟨by rw [hupd_at, if_pos rfl], by rw [hupd_ne r8, hupd_ne q6, hupd_ne n47, hupd_ne n45, hupd_at, if_pos rfl], by rw [hupd_ne r6, hupd_ne q4, hupd_ne n57, hupd_at, if_pos rfl], by rw [hupd_ne r4, hupd_ne q2, hupd_at, if_pos rfl]; rfl, (((((Sub.refl _).fresh HN.out.1).fresh HN.out.2.1).fresh HN.out.2.2).fresh HV.out).fresh HL.out⟩
    · rw [hupd_ne r2, hupd_at, if_pos rfl, hv]
    · rintro i hi hc m' ⟨h1, h4, h5, h7, hsm⟩
      have hlb := h1.trans (congrArg some HLB.out)
      have frl : ∀ b', m' b' = none → (l = b') = False := fun b' h => by
        rw [eq_iff_iff, iff_false]; rintro rfl; rw [h1] at h; cases h
      have fr4 : ∀ b', m' b' = none → (p4 = b') = False := fun b' h => by
        rw [eq_iff_iff, iff_false]; rintro rfl; rw [h4] at h; cases h
      have fr5 : ∀ b', m' b' = none → (p5 = b') = False := fun b' h => by
        rw [eq_iff_iff, iff_false]; rintro rfl; rw [h5] at h; cases h
      have fr7 : ∀ b', m' b' = none → (p7 = b') = False := fun b' h => by
        rw [eq_iff_iff, iff_false]; rintro rfl; rw [h7] at h; cases h
      have frl2 : ∀ b', m' b' = none → (b' = l) = False := fun b' h => by
        rw [eq_iff_iff, iff_false]; rintro rfl; rw [h1] at h; cases h
      have fr72 : ∀ b', m' b' = none → (b' = p7) = False := fun b' h => by
        rw [eq_iff_iff, iff_false]; rintro rfl; rw [h7] at h; cases h
      have hrx : rightS (C.getD i default) = 0 := HG.out.2.1.2.2.1 _ (by rw [show C.getD i default = C[i] by simp [List.getD_eq_getElem?_getD, hi]]; exact List.getElem_mem hi)
      have hn2 := HG.out.2.1.2.1
      have hdt := dem_take C span n i hi
      obtain ⟨x, hx⟩ : ∃ x, C.getD i default = x := ⟨_, rfl⟩
      rw [hx] at hc hrx hdt ⊢
      have hjd := jobs_dem hrx hc span n
      have hdi := demS_in hrx HG.out.2.2.1 HG.out.2.2.2.1 hn2.1 hn2.2
      have hci := costS_in x
      have hdf := demF_in (C := C.take i) (fun s hs => HG.out.2.1.2.2.1 s (List.mem_of_mem_take hs)) HG.out.2.2.1 HG.out.2.2.2.1 hn2.1 hn2.2
      have hlt : (C.take i).length ≤ 64 := by rw [List.length_take]; have := HG.out.2.1.1; omega
      have HJ := Hid.mk (pjobs_spec G x hrx span n HG.out.2.2.1 HG.out.2.2.2.1 hn2.1 hn2.2)
      have HC := Hid.mk (pcost_spec G HG.out.1 x)
      obtain ⟨jb, hjb⟩ : ∃ jb, jobsF x span n = jb := ⟨_, rfl⟩
      obtain ⟨co, hco⟩ : ∃ co, costS x = co := ⟨_, rfl⟩
      obtain ⟨dm, hdm⟩ : ∃ dm, demS x span n = dm := ⟨_, rfl⟩
      obtain ⟨ac, hac⟩ : ∃ ac, demF (C.take i) span n = ac := ⟨_, rfl⟩
      rw [hjb] at HJ hjd
      rw [hco] at HC hjd
      rw [hdm] at hjd hdi hdt
      rw [hac] at hdf h7 hdt
      have w1 : IntKind.i64.wrap (jb * co) = dm := by rw [hjd]; exact wrap_i64 (by omega) (by omega)
      have w2 : IntKind.i64.wrap (ac + dm) = ac + dm := wrap_i64 (by omega) (by omega)
      have HS := Hid.mk (And.intro hsm (And.intro h1 hdt))
      clear hc hrx hdt hjd hdi hci hdf hlt hjb hco hdm hac hn2 hsm h1 hx hi
      refine yield_of hlb rfl (by decide +kernel) ?_
      repeat' (first | exact tf0 ‹_› | exact tf1 ‹_› | exact False.elim ‹_› | (with_reducible refine Al.intro ?_; intro pb hpb; (try simp only [hupd_none'] at hpb); (repeat rcases hpb with ⟨⟨hpx, hpy⟩, hpb⟩)) | with_reducible refine need ?_ | ((with_reducible first | refine frk0 ?_ ?_ | refine frk1 ?_ ?_ | refine frk2 ?_ ?_ | refine frk3 ?_ ?_ | refine frk4 ?_ ?_ | refine frk5 ?_ ?_ | refine frk6 ?_ ?_ | refine frk7 ?_ ?_ | refine frk8 ?_ ?_ | refine frk9 ?_ ?_) <;> intro h <;> try (exfalso; omega)) | with_reducible refine quiet_and ?_ ?_ | with_reducible refine awp_drawnA mixed (by decide +kernel) ?_ | ((fail_if_success with_reducible refine stp ?_); simp -implicitDefEqProofs only [go_sem, Nat.reduceEqDiff, Nat.reduceAdd, Nat.reduceLT, Nat.reduceMul, Nat.reduceSub, Nat.reduceLeDiff, ↓reduceIte, reduceCtorEq, ↓String.reduceEq, String.reduceNe, Int.reduceToNat, Int.reduceLT, Int.reduceLE, Int.reduceGT, Int.reduceGE, Int.reduceEq, Int.reduceNe, Int.reduceBEq, Int.reduceBNe, Int.reduceAdd, Int.reduceSub, Int.reduceMul, Int.reduceNeg,  encSc, *]))
      refine awp_drawnE [(0, .q), (1, .q), (2, .q), (3, .q), (4, .k), (5, .q), (6, .k), (7, .q), (8, .q), (9, .e)] (fun i => match i with | 4 => .int .i64 jb | 6 => .int .i64 co | _ => .undef) (fun _ => False) (fun _ _ => False) rfl (by decide +kernel) ?_
      repeat' (first | exact tf0 ‹_› | exact tf1 ‹_› | exact False.elim ‹_› | (with_reducible refine Al.intro ?_; intro pb hpb; (try simp only [hupd_none'] at hpb); (repeat rcases hpb with ⟨⟨hpx, hpy⟩, hpb⟩)) | with_reducible refine need ?_ | ((with_reducible first | refine frk0 ?_ ?_ | refine frk1 ?_ ?_ | refine frk2 ?_ ?_ | refine frk3 ?_ ?_ | refine frk4 ?_ ?_ | refine frk5 ?_ ?_ | refine frk6 ?_ ?_ | refine frk7 ?_ ?_ | refine frk8 ?_ ?_ | refine frk9 ?_ ?_) <;> intro h <;> try (exfalso; omega)) | with_reducible refine quiet_and ?_ ?_ | with_reducible refine awp_drawnA mixed (by decide +kernel) ?_ | ((fail_if_success with_reducible refine stp ?_); simp -implicitDefEqProofs only [go_sem, Nat.reduceEqDiff, Nat.reduceAdd, Nat.reduceLT, Nat.reduceMul, Nat.reduceSub, Nat.reduceLeDiff, ↓reduceIte, reduceCtorEq, ↓String.reduceEq, String.reduceNe, Int.reduceToNat, Int.reduceLT, Int.reduceLE, Int.reduceGT, Int.reduceGE, Int.reduceEq, Int.reduceNe, Int.reduceBEq, Int.reduceBNe, Int.reduceAdd, Int.reduceSub, Int.reduceMul, Int.reduceNeg,  encSc, *]))
      · exact fun m3 _ => HJ.out m3
      · exact fun m3 _ => HC.out m3
      have np4 : p4 ≠ pb := fun e => by rw [e, hpb] at h4; cases h4
      have np5 : p5 ≠ pb := fun e => by rw [e, hpb] at h5; cases h5
      refine ⟨by rw [hupd_ne r3, hupd_at, if_pos rfl], rfl, by rw [hupd_at, if_pos rfl]; exact (congrArg some HLB.out).symm, ?_, ?_, ?_, ?_⟩
      · rw [hupd_ne r8, hupd_ne n47, hupd_ne r8, hupd_ne np4]; exact h4
      · rw [hupd_ne r6, hupd_ne n57, hupd_ne r6, hupd_ne np5]; exact h5
      · rw [hupd_ne r4, hupd_at, if_pos rfl, HS.out.2.2]
      · intro y z hy
        have n7 : y ≠ p7 := fun e => by rw [e, HN.out.2.2] at hy; cases hy
        have nl : y ≠ l := fun e => by rw [e, HL.out] at hy; cases hy
        have nb : y ≠ pb := fun e => by rw [e, HS.out.1.gone hpb] at hy; cases hy
        rw [hupd_ne nl, hupd_ne n7, hupd_ne nl, hupd_ne nb]; exact HS.out.1 _ _ hy
    · rintro i hi hc m' ⟨h1, h4, h5, h7, hsm⟩
      exact ⟨h1, h4, h5, by rw [h7, dem_take C span n i hi, dem_skip hc, Int.add_zero], hsm⟩
    · rintro m' ⟨h1, h4, h5, h7, hsm⟩
      rw [List.take_length] at h7
      refine ⟨_, _, _, _, _, _, _, hupd m p7 (.cells [.int .i64 (demF C span n)] 1), h1.trans (congrArg some HLB.out), by decide, ?_, ?_, ?_⟩
      · intro y z hy
        by_cases e : y = p7
        · rw [e, hupd_at, if_pos rfl] at hy; rw [e, h7]; exact hy
        · rw [hupd_ne e] at hy; exact hsm _ _ hy
      · rw [hupd_ne r3]; exact HL.out
      · have SM : Sub m (hupd m p7 (.cells [.int .i64 (demF C span n)] 1)) := (Sub.refl _).fresh HN.out.2.2
        have SM := Hid.mk SM
        clear h1 h4 h5 h7 hsm
        show blockA 0 _ _ _ _
        repeat' (first | exact tf0 ‹_› | exact tf1 ‹_› | exact False.elim ‹_› | (with_reducible refine Al.intro ?_; intro pb hpb; (try simp only [hupd_none'] at hpb); (repeat rcases hpb with ⟨⟨hpx, hpy⟩, hpb⟩)) | with_reducible refine need ?_ | ((with_reducible first | refine frk0 ?_ ?_ | refine frk1 ?_ ?_ | refine frk2 ?_ ?_ | refine frk3 ?_ ?_ | refine frk4 ?_ ?_ | refine frk5 ?_ ?_ | refine frk6 ?_ ?_ | refine frk7 ?_ ?_ | refine frk8 ?_ ?_ | refine frk9 ?_ ?_) <;> intro h <;> try (exfalso; omega)) | with_reducible refine quiet_and ?_ ?_ | with_reducible refine awp_drawnA mixed (by decide +kernel) ?_ | ((fail_if_success with_reducible refine stp ?_); simp -implicitDefEqProofs only [go_sem, Nat.reduceEqDiff, Nat.reduceAdd, Nat.reduceLT, Nat.reduceMul, Nat.reduceSub, Nat.reduceLeDiff, ↓reduceIte, reduceCtorEq, ↓String.reduceEq, String.reduceNe, Int.reduceToNat, Int.reduceLT, Int.reduceLE, Int.reduceGT, Int.reduceGE, Int.reduceEq, Int.reduceNe, Int.reduceBEq, Int.reduceBNe, Int.reduceAdd, Int.reduceSub, Int.reduceMul, Int.reduceNeg,  *]))
        exact ⟨m, SM.out, rfl, rfl⟩)
end Go.Proofs.YtmifapnmlhchlaaDoor
namespace Go.Proofs.YtmifapnmlhchlaaDoor
open Go Go.Proofs.YtmifapnmlhchlaaDoor.Ab
open Go.Proofs (Tryd.prog)
set_option maxRecDepth 100000
def clampF (a lo hi : Int) : Int := if a < lo then lo else imn a hi
theorem clamp_spec (G : Nat → AVal) (a lo hi : Int) : Ans G 22 [.int .i64 a, .int .i64 lo, .int .i64 hi] (.int .i64 (clampF a lo hi)) := by
  intro m
  by_cases h : a < lo
  · refine callWP_body Tryd.func22 rfl (N := 14) rfl (rs := [.tmp 6]) rfl en_22 (of_decide_eq_true rfl) ?_
    repeat' (first | exact tf0 ‹_› | exact tf1 ‹_› | exact False.elim ‹_› | (with_reducible refine Al.intro ?_; intro pb hpb; (try simp only [hupd_none'] at hpb); (repeat rcases hpb with ⟨⟨hpx, hpy⟩, hpb⟩)) | with_reducible refine need ?_ | ((with_reducible first | refine frk0 ?_ ?_ | refine frk1 ?_ ?_ | refine frk2 ?_ ?_ | refine frk3 ?_ ?_ | refine frk4 ?_ ?_ | refine frk5 ?_ ?_ | refine frk6 ?_ ?_ | refine frk7 ?_ ?_ | refine frk8 ?_ ?_ | refine frk9 ?_ ?_) <;> intro h <;> try (exfalso; omega)) | with_reducible refine quiet_and ?_ ?_ | with_reducible refine awp_drawnA mixed (by decide +kernel) ?_ | ((fail_if_success with_reducible refine stp ?_); simp -implicitDefEqProofs only [go_sem, Nat.reduceEqDiff, Nat.reduceAdd, Nat.reduceLT, Nat.reduceMul, Nat.reduceSub, Nat.reduceLeDiff, ↓reduceIte, reduceCtorEq, ↓String.reduceEq, String.reduceNe, Int.reduceToNat, Int.reduceLT, Int.reduceLE, Int.reduceGT, Int.reduceGE, Int.reduceEq, Int.reduceNe, Int.reduceBEq, Int.reduceBNe, Int.reduceAdd, Int.reduceSub, Int.reduceMul, Int.reduceNeg,  *]))
    refine ⟨m, (by (repeat refine Sub.fresh ?_ (by assumption)); exact Sub.refl m), ?_, rfl⟩
    unfold clampF; rw [if_pos h]
  · refine callWP_body Tryd.func22 rfl (N := 14) rfl (rs := [.tmp 6]) rfl en_22 (of_decide_eq_true rfl) ?_
    repeat' (first | exact tf0 ‹_› | exact tf1 ‹_› | exact False.elim ‹_› | (with_reducible refine Al.intro ?_; intro pb hpb; (try simp only [hupd_none'] at hpb); (repeat rcases hpb with ⟨⟨hpx, hpy⟩, hpb⟩)) | with_reducible refine need ?_ | ((with_reducible first | refine frk0 ?_ ?_ | refine frk1 ?_ ?_ | refine frk2 ?_ ?_ | refine frk3 ?_ ?_ | refine frk4 ?_ ?_ | refine frk5 ?_ ?_ | refine frk6 ?_ ?_ | refine frk7 ?_ ?_ | refine frk8 ?_ ?_ | refine frk9 ?_ ?_) <;> intro h <;> try (exfalso; omega)) | with_reducible refine quiet_and ?_ ?_ | with_reducible refine awp_drawnA mixed (by decide +kernel) ?_ | ((fail_if_success with_reducible refine stp ?_); simp -implicitDefEqProofs only [go_sem, Nat.reduceEqDiff, Nat.reduceAdd, Nat.reduceLT, Nat.reduceMul, Nat.reduceSub, Nat.reduceLeDiff, ↓reduceIte, reduceCtorEq, ↓String.reduceEq, String.reduceNe, Int.reduceToNat, Int.reduceLT, Int.reduceLE, Int.reduceGT, Int.reduceGE, Int.reduceEq, Int.reduceNe, Int.reduceBEq, Int.reduceBNe, Int.reduceAdd, Int.reduceSub, Int.reduceMul, Int.reduceNeg,  *]))
    refine ⟨m, (by (repeat refine Sub.fresh ?_ (by assumption)); exact Sub.refl m), ?_, rfl⟩
    unfold clampF; rw [if_neg h]
theorem clamp_in (a : Int) : clampF a 1 65536 = a ↔ 1 ≤ a ∧ a ≤ 65536 := by
  unfold clampF imn
  constructor
  · intro h; split at h
    · omega
    · split at h <;> omega
  · intro h
    rw [if_neg (by omega)]
    split <;> omega
set_option maxHeartbeats 1000000 in
theorem pOf_spec (G : Nat → AVal) (hG : DivOK G) (C : List Stm) (hl : C.length < 9223372036854775808) (span n : Int) (v : AVal) (m : Heap) (hs : RdS C v m) : CallWP Tryd.prog G 10 [v, .int .i64 span, .int .i64 n] m fun v' m' => v' = .int .i64 (demC C span n) ∧ m' = m := by
  have HS := Hid.mk (And.intro hs (And.intro hG hl))
  obtain ⟨b, pre, post, N, cap, hw⟩ := hs.ways rfl
  obtain ⟨c, hc⟩ : ∃ c, clampF span 1 65536 = c := ⟨_, rfl⟩
  have HC := Hid.mk hc
  clear hs hG hl hc
  by_cases hq : span = c
  · have hb2 : (span != c) = false := by simpa using hq
    have hin := (clamp_in span).1 (by rw [HC.out]; exact hq.symm)
    have HI := Hid.mk hin
    clear hq hin
    rcases hw with ⟨rfl, hz⟩ | ⟨rfl, hb⟩ | rfl
    all_goals (
      refine callWP_body Tryd.func10 rfl (N := 21) rfl (rs := [.tmp 6]) rfl en_10 (of_decide_eq_true rfl) ?_
      repeat' (first | exact tf0 ‹_› | exact tf1 ‹_› | exact False.elim ‹_› | (with_reducible refine Al.intro ?_; intro pb hpb; (try simp only [hupd_none'] at hpb); (repeat rcases hpb with ⟨⟨hpx, hpy⟩, hpb⟩)) | with_reducible refine need ?_ | ((with_reducible first | refine frk0 ?_ ?_ | refine frk1 ?_ ?_ | refine frk2 ?_ ?_ | refine frk3 ?_ ?_ | refine frk4 ?_ ?_ | refine frk5 ?_ ?_ | refine frk6 ?_ ?_ | refine frk7 ?_ ?_ | refine frk8 ?_ ?_ | refine frk9 ?_ ?_) <;> intro h <;> try (exfalso; omega)) | with_reducible refine quiet_and ?_ ?_ | with_reducible refine awp_drawnA mixed (by decide +kernel) ?_ | ((fail_if_success with_reducible refine stp ?_); simp -implicitDefEqProofs only [go_sem, Nat.reduceEqDiff, Nat.reduceAdd, Nat.reduceLT, Nat.reduceMul, Nat.reduceSub, Nat.reduceLeDiff, ↓reduceIte, reduceCtorEq, ↓String.reduceEq, String.reduceNe, Int.reduceToNat, Int.reduceLT, Int.reduceLE, Int.reduceGT, Int.reduceGE, Int.reduceEq, Int.reduceNe, Int.reduceBEq, Int.reduceBNe, Int.reduceAdd, Int.reduceSub, Int.reduceMul, Int.reduceNeg,  *]))
      refine CallWP.to (clamp_spec G span 1 65536 _) ?_
      rw [HC.out]
      repeat' (first | exact tf0 ‹_› | exact tf1 ‹_› | exact False.elim ‹_› | (with_reducible refine Al.intro ?_; intro pb hpb; (try simp only [hupd_none'] at hpb); (repeat rcases hpb with ⟨⟨hpx, hpy⟩, hpb⟩)) | with_reducible refine need ?_ | ((with_reducible first | refine frk0 ?_ ?_ | refine frk1 ?_ ?_ | refine frk2 ?_ ?_ | refine frk3 ?_ ?_ | refine frk4 ?_ ?_ | refine frk5 ?_ ?_ | refine frk6 ?_ ?_ | refine frk7 ?_ ?_ | refine frk8 ?_ ?_ | refine frk9 ?_ ?_) <;> intro h <;> try (exfalso; omega)) | with_reducible refine quiet_and ?_ ?_ | with_reducible refine awp_drawnA mixed (by decide +kernel) ?_ | ((fail_if_success with_reducible refine stp ?_); simp -implicitDefEqProofs only [go_sem, Nat.reduceEqDiff, Nat.reduceAdd, Nat.reduceLT, Nat.reduceMul, Nat.reduceSub, Nat.reduceLeDiff, ↓reduceIte, reduceCtorEq, ↓String.reduceEq, String.reduceNe, Int.reduceToNat, Int.reduceLT, Int.reduceLE, Int.reduceGT, Int.reduceGE, Int.reduceEq, Int.reduceNe, Int.reduceBEq, Int.reduceBNe, Int.reduceAdd, Int.reduceSub, Int.reduceMul, Int.reduceNeg,  *]))
      refine pdright_spec G C HS.out.2.2 n _ _ HS.out.1 _ (fun b1 hb1 => ?_)
      have HB := Hid.mk hb1
      clear hb1
      cases b1 with
      | false =>
        have hz0 : Hid (demC C span n = 0) := .mk (by unfold demC; rw [if_neg (fun h => by have := HB.out.2 h.2; cases this)])
        repeat' (first | exact tf0 ‹_› | exact tf1 ‹_› | exact False.elim ‹_› | (with_reducible refine Al.intro ?_; intro pb hpb; (try simp only [hupd_none'] at hpb); (repeat rcases hpb with ⟨⟨hpx, hpy⟩, hpb⟩)) | with_reducible refine need ?_ | ((with_reducible first | refine frk0 ?_ ?_ | refine frk1 ?_ ?_ | refine frk2 ?_ ?_ | refine frk3 ?_ ?_ | refine frk4 ?_ ?_ | refine frk5 ?_ ?_ | refine frk6 ?_ ?_ | refine frk7 ?_ ?_ | refine frk8 ?_ ?_ | refine frk9 ?_ ?_) <;> intro h <;> try (exfalso; omega)) | with_reducible refine quiet_and ?_ ?_ | with_reducible refine awp_drawnA mixed (by decide +kernel) ?_ | ((fail_if_success with_reducible refine stp ?_); simp -implicitDefEqProofs only [go_sem, Nat.reduceEqDiff, Nat.reduceAdd, Nat.reduceLT, Nat.reduceMul, Nat.reduceSub, Nat.reduceLeDiff, ↓reduceIte, reduceCtorEq, ↓String.reduceEq, String.reduceNe, Int.reduceToNat, Int.reduceLT, Int.reduceLE, Int.reduceGT, Int.reduceGE, Int.reduceEq, Int.reduceNe, Int.reduceBEq, Int.reduceBNe, Int.reduceAdd, Int.reduceSub, Int.reduceMul, Int.reduceNeg,  *]))
        exact ⟨_, Sub.refl _, by rw [hz0.out], rfl⟩
      | true =>
        have hr := HB.out.1 rfl
        have hz0 : Hid (demC C span n = demF C span n) := .mk (by unfold demC; rw [if_pos ⟨HI.out, hr⟩])
        have HR := Hid.mk hr
        clear hr
        repeat' (first | exact tf0 ‹_› | exact tf1 ‹_› | exact False.elim ‹_› | (with_reducible refine Al.intro ?_; intro pb hpb; (try simp only [hupd_none'] at hpb); (repeat rcases hpb with ⟨⟨hpx, hpy⟩, hpb⟩)) | with_reducible refine need ?_ | ((with_reducible first | refine frk0 ?_ ?_ | refine frk1 ?_ ?_ | refine frk2 ?_ ?_ | refine frk3 ?_ ?_ | refine frk4 ?_ ?_ | refine frk5 ?_ ?_ | refine frk6 ?_ ?_ | refine frk7 ?_ ?_ | refine frk8 ?_ ?_ | refine frk9 ?_ ?_) <;> intro h <;> try (exfalso; omega)) | with_reducible refine quiet_and ?_ ?_ | with_reducible refine awp_drawnA mixed (by decide +kernel) ?_ | ((fail_if_success with_reducible refine stp ?_); simp -implicitDefEqProofs only [go_sem, Nat.reduceEqDiff, Nat.reduceAdd, Nat.reduceLT, Nat.reduceMul, Nat.reduceSub, Nat.reduceLeDiff, ↓reduceIte, reduceCtorEq, ↓String.reduceEq, String.reduceNe, Int.reduceToNat, Int.reduceLT, Int.reduceLE, Int.reduceGT, Int.reduceGE, Int.reduceEq, Int.reduceNe, Int.reduceBEq, Int.reduceBNe, Int.reduceAdd, Int.reduceSub, Int.reduceMul, Int.reduceNeg,  *]))
        refine CallWP.to (pof_spec G HS.out.2.1 C span n HR.out HI.out.1 HI.out.2 _ _ HS.out.1) ?_
        repeat' (first | exact tf0 ‹_› | exact tf1 ‹_› | exact False.elim ‹_› | (with_reducible refine Al.intro ?_; intro pb hpb; (try simp only [hupd_none'] at hpb); (repeat rcases hpb with ⟨⟨hpx, hpy⟩, hpb⟩)) | with_reducible refine need ?_ | ((with_reducible first | refine frk0 ?_ ?_ | refine frk1 ?_ ?_ | refine frk2 ?_ ?_ | refine frk3 ?_ ?_ | refine frk4 ?_ ?_ | refine frk5 ?_ ?_ | refine frk6 ?_ ?_ | refine frk7 ?_ ?_ | refine frk8 ?_ ?_ | refine frk9 ?_ ?_) <;> intro h <;> try (exfalso; omega)) | with_reducible refine quiet_and ?_ ?_ | with_reducible refine awp_drawnA mixed (by decide +kernel) ?_ | ((fail_if_success with_reducible refine stp ?_); simp -implicitDefEqProofs only [go_sem, Nat.reduceEqDiff, Nat.reduceAdd, Nat.reduceLT, Nat.reduceMul, Nat.reduceSub, Nat.reduceLeDiff, ↓reduceIte, reduceCtorEq, ↓String.reduceEq, String.reduceNe, Int.reduceToNat, Int.reduceLT, Int.reduceLE, Int.reduceGT, Int.reduceGE, Int.reduceEq, Int.reduceNe, Int.reduceBEq, Int.reduceBNe, Int.reduceAdd, Int.reduceSub, Int.reduceMul, Int.reduceNeg,  *]))
        exact ⟨_, Sub.refl _, by rw [hz0.out], rfl⟩)
  · have hb2 : (span != c) = true := by simpa using hq
    have hz0 : Hid (demC C span n = 0) := .mk (by unfold demC; rw [if_neg (fun h => hq (by rw [← HC.out]; exact ((clamp_in span).2 h.1).symm))])
    clear hq
    rcases hw with ⟨rfl, hz⟩ | ⟨rfl, hb⟩ | rfl
    all_goals (
      refine callWP_body Tryd.func10 rfl (N := 21) rfl (rs := [.tmp 6]) rfl en_10 (of_decide_eq_true rfl) ?_
      repeat' (first | exact tf0 ‹_› | exact tf1 ‹_› | exact False.elim ‹_› | (with_reducible refine Al.intro ?_; intro pb hpb; (try simp only [hupd_none'] at hpb); (repeat rcases hpb with ⟨⟨hpx, hpy⟩, hpb⟩)) | with_reducible refine need ?_ | ((with_reducible first | refine frk0 ?_ ?_ | refine frk1 ?_ ?_ | refine frk2 ?_ ?_ | refine frk3 ?_ ?_ | refine frk4 ?_ ?_ | refine frk5 ?_ ?_ | refine frk6 ?_ ?_ | refine frk7 ?_ ?_ | refine frk8 ?_ ?_ | refine frk9 ?_ ?_) <;> intro h <;> try (exfalso; omega)) | with_reducible refine quiet_and ?_ ?_ | with_reducible refine awp_drawnA mixed (by decide +kernel) ?_ | ((fail_if_success with_reducible refine stp ?_); simp -implicitDefEqProofs only [go_sem, Nat.reduceEqDiff, Nat.reduceAdd, Nat.reduceLT, Nat.reduceMul, Nat.reduceSub, Nat.reduceLeDiff, ↓reduceIte, reduceCtorEq, ↓String.reduceEq, String.reduceNe, Int.reduceToNat, Int.reduceLT, Int.reduceLE, Int.reduceGT, Int.reduceGE, Int.reduceEq, Int.reduceNe, Int.reduceBEq, Int.reduceBNe, Int.reduceAdd, Int.reduceSub, Int.reduceMul, Int.reduceNeg,  *]))
      refine CallWP.to (clamp_spec G span 1 65536 _) ?_
      rw [HC.out]
      repeat' (first | exact tf0 ‹_› | exact tf1 ‹_› | exact False.elim ‹_› | (with_reducible refine Al.intro ?_; intro pb hpb; (try simp only [hupd_none'] at hpb); (repeat rcases hpb with ⟨⟨hpx, hpy⟩, hpb⟩)) | with_reducible refine need ?_ | ((with_reducible first | refine frk0 ?_ ?_ | refine frk1 ?_ ?_ | refine frk2 ?_ ?_ | refine frk3 ?_ ?_ | refine frk4 ?_ ?_ | refine frk5 ?_ ?_ | refine frk6 ?_ ?_ | refine frk7 ?_ ?_ | refine frk8 ?_ ?_ | refine frk9 ?_ ?_) <;> intro h <;> try (exfalso; omega)) | with_reducible refine quiet_and ?_ ?_ | with_reducible refine awp_drawnA mixed (by decide +kernel) ?_ | ((fail_if_success with_reducible refine stp ?_); simp -implicitDefEqProofs only [go_sem, Nat.reduceEqDiff, Nat.reduceAdd, Nat.reduceLT, Nat.reduceMul, Nat.reduceSub, Nat.reduceLeDiff, ↓reduceIte, reduceCtorEq, ↓String.reduceEq, String.reduceNe, Int.reduceToNat, Int.reduceLT, Int.reduceLE, Int.reduceGT, Int.reduceGE, Int.reduceEq, Int.reduceNe, Int.reduceBEq, Int.reduceBNe, Int.reduceAdd, Int.reduceSub, Int.reduceMul, Int.reduceNeg,  *]))
      exact ⟨_, Sub.refl _, by rw [hz0.out], rfl⟩)
end Go.Proofs.YtmifapnmlhchlaaDoor
namespace Go.Proofs.YtmifapnmlhchlaaDoor
open Go Go.Proofs.YtmifapnmlhchlaaDoor.Ab
open Go.Proofs (Tryd.prog)
set_option maxRecDepth 100000
theorem mkeys_spec (G : Nat → AVal) (b : Nat) (m : Heap) (K : AVal → Heap → Prop)
    (hK : ∀ p, m p = none → K (.func (.func 66) [] [.ptr p 0]) (hupd m p (.cells [.map b] 1))) : CallWP Tryd.prog G 40 [.map b] m K := by
  have HK := Hid.mk hK
  clear hK
  refine callWP_body Tryd.func40 rfl (N := 4) rfl (rs := [.tmp 2]) rfl en_40 (of_decide_eq_true rfl) ?_
  repeat' (first | exact tf0 ‹_› | exact tf1 ‹_› | exact False.elim ‹_› | (with_reducible refine Al.intro ?_; intro pb hpb; (try simp only [hupd_none'] at hpb); (repeat rcases hpb with ⟨⟨hpx, hpy⟩, hpb⟩)) | with_reducible refine need ?_ | ((with_reducible first | refine frk0 ?_ ?_ | refine frk1 ?_ ?_ | refine frk2 ?_ ?_ | refine frk3 ?_ ?_ | refine frk4 ?_ ?_ | refine frk5 ?_ ?_ | refine frk6 ?_ ?_ | refine frk7 ?_ ?_ | refine frk8 ?_ ?_ | refine frk9 ?_ ?_) <;> intro h <;> try (exfalso; omega)) | with_reducible refine quiet_and ?_ ?_ | with_reducible refine awp_drawnA mixed (by decide +kernel) ?_ | ((fail_if_success with_reducible refine stp ?_); simp -implicitDefEqProofs only [go_sem, Nat.reduceEqDiff, Nat.reduceAdd, Nat.reduceLT, Nat.reduceMul, Nat.reduceSub, Nat.reduceLeDiff, ↓reduceIte, reduceCtorEq, ↓String.reduceEq, String.reduceNe, Int.reduceToNat, Int.reduceLT, Int.reduceLE, Int.reduceGT, Int.reduceGE, Int.reduceEq, Int.reduceNe, Int.reduceBEq, Int.reduceBNe, Int.reduceAdd, Int.reduceSub, Int.reduceMul, Int.reduceNeg,  *]))
  refine ⟨_, Sub.refl _, HK.out pb hpb⟩
end Go.Proofs.YtmifapnmlhchlaaDoor
namespace Go.Proofs.YtmifapnmlhchlaaDoor
open Go Go.Proofs.YtmifapnmlhchlaaDoor.Ab
open Go.Proofs (Tryd.prog)
set_option maxRecDepth 100000
theorem nan_spec (G : Nat → AVal) (x : Int) : Ans G 109 [.int .i64 x] (.bool false) := by
  intro m
  refine callWP_body Tryd.func109 rfl (N := 6) rfl (rs := [.tmp 2]) rfl en_109 (of_decide_eq_true rfl) ?_
  repeat' (first | exact tf0 ‹_› | exact tf1 ‹_› | exact False.elim ‹_› | (with_reducible refine Al.intro ?_; intro pb hpb; (try simp only [hupd_none'] at hpb); (repeat rcases hpb with ⟨⟨hpx, hpy⟩, hpb⟩)) | with_reducible refine need ?_ | ((with_reducible first | refine frk0 ?_ ?_ | refine frk1 ?_ ?_ | refine frk2 ?_ ?_ | refine frk3 ?_ ?_ | refine frk4 ?_ ?_ | refine frk5 ?_ ?_ | refine frk6 ?_ ?_ | refine frk7 ?_ ?_ | refine frk8 ?_ ?_ | refine frk9 ?_ ?_) <;> intro h <;> try (exfalso; omega)) | with_reducible refine quiet_and ?_ ?_ | with_reducible refine awp_drawnA mixed (by decide +kernel) ?_ | ((fail_if_success with_reducible refine stp ?_); simp -implicitDefEqProofs only [go_sem, Nat.reduceEqDiff, Nat.reduceAdd, Nat.reduceLT, Nat.reduceMul, Nat.reduceSub, Nat.reduceLeDiff, ↓reduceIte, reduceCtorEq, ↓String.reduceEq, String.reduceNe, Int.reduceToNat, Int.reduceLT, Int.reduceLE, Int.reduceGT, Int.reduceGE, Int.reduceEq, Int.reduceNe, Int.reduceBEq, Int.reduceBNe, Int.reduceAdd, Int.reduceSub, Int.reduceMul, Int.reduceNeg,  *]))
  refine ⟨m, (by (repeat refine Sub.fresh ?_ (by assumption)); exact Sub.refl m), ?_, rfl⟩
  first | rfl | simp
set_option maxHeartbeats 1000000 in
theorem less_spec (G : Nat → AVal) (x y : Int) : Ans G 97 [.int .i64 x, .int .i64 y] (.bool (decide (x < y))) := by
  intro m
  refine callWP_body Tryd.func97 rfl (N := 17) rfl (rs := [.tmp 4]) rfl en_97 (of_decide_eq_true rfl) ?_
  repeat' (first | exact tf0 ‹_› | exact tf1 ‹_› | exact False.elim ‹_› | (with_reducible refine Al.intro ?_; intro pb hpb; (try simp only [hupd_none'] at hpb); (repeat rcases hpb with ⟨⟨hpx, hpy⟩, hpb⟩)) | with_reducible refine need ?_ | ((with_reducible first | refine frk0 ?_ ?_ | refine frk1 ?_ ?_ | refine frk2 ?_ ?_ | refine frk3 ?_ ?_ | refine frk4 ?_ ?_ | refine frk5 ?_ ?_ | refine frk6 ?_ ?_ | refine frk7 ?_ ?_ | refine frk8 ?_ ?_ | refine frk9 ?_ ?_) <;> intro h <;> try (exfalso; omega)) | with_reducible refine quiet_and ?_ ?_ | with_reducible refine awp_drawnA mixed (by decide +kernel) ?_ | ((fail_if_success with_reducible refine stp ?_); simp -implicitDefEqProofs only [go_sem, Nat.reduceEqDiff, Nat.reduceAdd, Nat.reduceLT, Nat.reduceMul, Nat.reduceSub, Nat.reduceLeDiff, ↓reduceIte, reduceCtorEq, ↓String.reduceEq, String.reduceNe, Int.reduceToNat, Int.reduceLT, Int.reduceLE, Int.reduceGT, Int.reduceGE, Int.reduceEq, Int.reduceNe, Int.reduceBEq, Int.reduceBNe, Int.reduceAdd, Int.reduceSub, Int.reduceMul, Int.reduceNeg,  *]))
  refine CallWP.to (nan_spec G x _) ?_
  repeat' (first | exact tf0 ‹_› | exact tf1 ‹_› | exact False.elim ‹_› | (with_reducible refine Al.intro ?_; intro pb hpb; (try simp only [hupd_none'] at hpb); (repeat rcases hpb with ⟨⟨hpx, hpy⟩, hpb⟩)) | with_reducible refine need ?_ | ((with_reducible first | refine frk0 ?_ ?_ | refine frk1 ?_ ?_ | refine frk2 ?_ ?_ | refine frk3 ?_ ?_ | refine frk4 ?_ ?_ | refine frk5 ?_ ?_ | refine frk6 ?_ ?_ | refine frk7 ?_ ?_ | refine frk8 ?_ ?_ | refine frk9 ?_ ?_) <;> intro h <;> try (exfalso; omega)) | with_reducible refine quiet_and ?_ ?_ | with_reducible refine awp_drawnA mixed (by decide +kernel) ?_ | ((fail_if_success with_reducible refine stp ?_); simp -implicitDefEqProofs only [go_sem, Nat.reduceEqDiff, Nat.reduceAdd, Nat.reduceLT, Nat.reduceMul, Nat.reduceSub, Nat.reduceLeDiff, ↓reduceIte, reduceCtorEq, ↓String.reduceEq, String.reduceNe, Int.reduceToNat, Int.reduceLT, Int.reduceLE, Int.reduceGT, Int.reduceGE, Int.reduceEq, Int.reduceNe, Int.reduceBEq, Int.reduceBNe, Int.reduceAdd, Int.reduceSub, Int.reduceMul, Int.reduceNeg,  *]))
  all_goals refine ⟨m, (by (repeat refine Sub.fresh ?_ (by assumption)); exact Sub.refl m), ?_, rfl⟩
  all_goals first | rfl | simp
end Go.Proofs.YtmifapnmlhchlaaDoor
namespace Go.Proofs.YtmifapnmlhchlaaDoor
open Go Go.Proofs.YtmifapnmlhchlaaDoor.Ab
open Go.Proofs (Tryd.prog)
set_option maxRecDepth 100000
theorem nodup_le : ∀ (n : Nat) (ds : List Nat), ds.Nodup → (∀ i ∈ ds, i < n) → ds.length ≤ n
  | 0, ds, _, h => by
    cases ds with
    | nil => simp
    | cons a t => exact absurd (h a (by simp)) (by omega)
  | n + 1, ds, hn, h => by
    by_cases hm : n ∈ ds
    · have := nodup_le n (ds.erase n) (hn.erase n) (fun i hi => by
        have h1 := h i (List.mem_of_mem_erase hi)
        have h2 : i ≠ n := fun e => by rw [e] at hi; exact (List.Nodup.not_mem_erase hn) hi
        omega)
      rw [List.length_erase_of_mem hm] at this
      omega
    · exact Nat.le_succ_of_le (nodup_le n ds hn (fun i hi => by
        have h1 := h i hi
        have h2 : i ≠ n := fun e => hm (e ▸ hi)
        omega))
theorem nodup_at {bs : List Nat} (hn : bs.Nodup) {i j : Nat} (hi : i < bs.length) (hj : j < bs.length) (h : bs.getD i 0 = bs.getD j 0) : i = j := by
  simp only [List.getD_eq_getElem?_getD, List.getElem?_eq_getElem hi, List.getElem?_eq_getElem hj, Option.getD_some] at h
  have hp := List.pairwise_iff_getElem.1 hn
  rcases Nat.lt_trichotomy i j with g | g | g
  · exact absurd h (hp i j hi hj g)
  · exact g
  · exact absurd h.symm (hp j i hj hi g)
set_option maxHeartbeats 2000000 in
theorem keys1_spec (G : Nat → AVal) (es : List (Int × AVal)) (bs : List Nat) (cl b pv l : Nat) {m : Heap} (hn : bs.Nodup) (hbl : bs.length = es.length) (I : Nat → List Nat → Heap → Prop) (K : AVal → Heap → Prop)
    (hpv : m pv = some (.cells [.map b] 1)) (hb : m b = some (.map es bs cl)) (h0 : ∀ r x, m r = none → I r [] (hupd m r x))
    (hmap : ∀ r ds m', I r ds m' → m' b = some (.map es bs cl))
    (hit : ∀ r ds m' x, m r = none → I r ds m' → I r ds (hupd m' r x))
    (hgo : ∀ r ds i m' y, m r = none → I r ds m' → m' r = some y → i < es.length → i ∉ ds → YieldWP Tryd.prog G l [.int .i64 (es.getD i (0, .undef)).1] m' fun v m'' => v = .bool true ∧ I r (ds ++ [i]) m'' ∧ m'' r = some y)
    (hK : ∀ r ds m', I r ds m' → (∀ i, i < es.length → i ∈ ds) → ds.Nodup → (∀ i ∈ ds, i < es.length) → K (.tuple []) m') : CallWP Tryd.prog G 66 [.func (.yield l) [] [], .ptr pv 0] m K := by
  have HH := Hid.mk (And.intro h0 (And.intro hmap (And.intro hit (And.intro hgo hK))))
  have HN := Hid.mk (And.intro hn hbl)
  clear h0 hmap hit hgo hK hn hbl
  refine callWP_body Tryd.func66 rfl (N := 14) rfl (rs := []) rfl en_66 (of_decide_eq_true rfl) ?_
  repeat' (first | exact tf0 ‹_› | exact tf1 ‹_› | exact False.elim ‹_› | (with_reducible refine Al.intro ?_; intro pb hpb; (try simp only [hupd_none'] at hpb); (repeat rcases hpb with ⟨⟨hpx, hpy⟩, hpb⟩)) | with_reducible refine need ?_ | ((with_reducible first | refine frk0 ?_ ?_ | refine frk1 ?_ ?_ | refine frk2 ?_ ?_ | refine frk3 ?_ ?_ | refine frk4 ?_ ?_ | refine frk5 ?_ ?_ | refine frk6 ?_ ?_ | refine frk7 ?_ ?_ | refine frk8 ?_ ?_ | refine frk9 ?_ ?_) <;> intro h <;> try (exfalso; omega)) | with_reducible refine quiet_and ?_ ?_ | with_reducible refine awp_drawnA mixed (by decide +kernel) ?_ | ((fail_if_success with_reducible refine stp ?_); simp -implicitDefEqProofs only [go_sem, Nat.reduceEqDiff, Nat.reduceAdd, Nat.reduceLT, Nat.reduceMul, Nat.reduceSub, Nat.reduceLeDiff, ↓reduceIte, reduceCtorEq, ↓String.reduceEq, String.reduceNe, Int.reduceToNat, Int.reduceLT, Int.reduceLE, Int.reduceGT, Int.reduceGE, Int.reduceEq, Int.reduceNe, Int.reduceBEq, Int.reduceBNe, Int.reduceAdd, Int.reduceSub, Int.reduceMul, Int.reduceNeg,  *]))
  refine range_wp hb (fun r hr => ?_)
  have HR := Hid.mk hr
  clear hr
  repeat' (first | exact tf0 ‹_› | exact tf1 ‹_› | exact False.elim ‹_› | (with_reducible refine Al.intro ?_; intro pb hpb; (try simp only [hupd_none'] at hpb); (repeat rcases hpb with ⟨⟨hpx, hpy⟩, hpb⟩)) | with_reducible refine need ?_ | ((with_reducible first | refine frk0 ?_ ?_ | refine frk1 ?_ ?_ | refine frk2 ?_ ?_ | refine frk3 ?_ ?_ | refine frk4 ?_ ?_ | refine frk5 ?_ ?_ | refine frk6 ?_ ?_ | refine frk7 ?_ ?_ | refine frk8 ?_ ?_ | refine frk9 ?_ ?_) <;> intro h <;> try (exfalso; omega)) | with_reducible refine quiet_and ?_ ?_ | with_reducible refine awp_drawnA mixed (by decide +kernel) ?_ | ((fail_if_success with_reducible refine stp ?_); simp -implicitDefEqProofs only [go_sem, Nat.reduceEqDiff, Nat.reduceAdd, Nat.reduceLT, Nat.reduceMul, Nat.reduceSub, Nat.reduceLeDiff, ↓reduceIte, reduceCtorEq, ↓String.reduceEq, String.reduceNe, Int.reduceToNat, Int.reduceLT, Int.reduceLE, Int.reduceGT, Int.reduceGE, Int.reduceEq, Int.reduceNe, Int.reduceBEq, Int.reduceBNe, Int.reduceAdd, Int.reduceSub, Int.reduceMul, Int.reduceNeg,  *]))
  clear hpv
  refine awp_loopP 0 (fun ts m' => Hid (∃ ds, I r ds m' ∧ ds.Nodup ∧ (∀ i ∈ ds, i < es.length) ∧ ∀ i, i < es.length → i ∈ ds))
    (fun k ts m' => ∃ ds : List Nat, Hid (k = es.length - ds.length ∧ I r ds m' ∧ ds.Nodup ∧ ∀ i ∈ ds, i < es.length) ∧ m' r = some (.obj (.mapIter (some b) cl (ds.map fun i => bs.getD i 0).toArray cl)) ∧ ts 0 = .func (.yield l) [] [] ∧ ts 5 = .ptr r 0) es.length
    ⟨[], .mk ⟨rfl, HH.out.1 r _ HR.out, List.nodup_nil, fun i hi => by cases hi⟩, by rw [hupd_at, if_pos rfl]; rfl, ttt, ttt⟩ ?_ ?_
  · rintro k ts m2 ⟨ds, H, hr2, t0, t5⟩
    have hb2 := HH.out.2.1 r ds m2 H.out.2.1
    repeat' (first | exact tf0 ‹_› | exact tf1 ‹_› | exact False.elim ‹_› | (with_reducible refine Al.intro ?_; intro pb hpb; (try simp only [hupd_none'] at hpb); (repeat rcases hpb with ⟨⟨hpx, hpy⟩, hpb⟩)) | with_reducible refine need ?_ | ((with_reducible first | refine frk0 ?_ ?_ | refine frk1 ?_ ?_ | refine frk2 ?_ ?_ | refine frk3 ?_ ?_ | refine frk4 ?_ ?_ | refine frk5 ?_ ?_ | refine frk6 ?_ ?_ | refine frk7 ?_ ?_ | refine frk8 ?_ ?_ | refine frk9 ?_ ?_) <;> intro h <;> try (exfalso; omega)) | with_reducible refine quiet_and ?_ ?_ | with_reducible refine awp_drawnA mixed (by decide +kernel) ?_ | ((fail_if_success with_reducible refine stp ?_); simp -implicitDefEqProofs only [go_sem, Nat.reduceEqDiff, Nat.reduceAdd, Nat.reduceLT, Nat.reduceMul, Nat.reduceSub, Nat.reduceLeDiff, ↓reduceIte, reduceCtorEq, ↓String.reduceEq, String.reduceNe, Int.reduceToNat, Int.reduceLT, Int.reduceLE, Int.reduceGT, Int.reduceGE, Int.reduceEq, Int.reduceNe, Int.reduceBEq, Int.reduceBNe, Int.reduceAdd, Int.reduceSub, Int.reduceMul, Int.reduceNeg,  *]))
    refine next_wp hr2 hb2 (fun hend => ?_) (fun i hi hni => ?_)
    · have hall : ∀ i, i < es.length → i ∈ ds := fun i hi => by
        have hib : i < bs.length := by rw [HN.out.2]; exact hi
        have h1 := hend (bs.getD i 0) (by simp only [List.getD_eq_getElem?_getD, List.getElem?_eq_getElem hib, Option.getD_some]; exact List.getElem_mem hib)
        rw [List.mem_toArray, List.mem_map] at h1
        obtain ⟨j, hj, he⟩ := h1
        rw [← nodup_at HN.out.1 (by rw [HN.out.2]; exact H.out.2.2.2 j hj) hib he]; exact hj
      have HA := Hid.mk hall
      clear hall hend
      repeat' (first | exact tf0 ‹_› | exact tf1 ‹_› | exact False.elim ‹_› | (with_reducible refine Al.intro ?_; intro pb hpb; (try simp only [hupd_none'] at hpb); (repeat rcases hpb with ⟨⟨hpx, hpy⟩, hpb⟩)) | with_reducible refine need ?_ | ((with_reducible first | refine frk0 ?_ ?_ | refine frk1 ?_ ?_ | refine frk2 ?_ ?_ | refine frk3 ?_ ?_ | refine frk4 ?_ ?_ | refine frk5 ?_ ?_ | refine frk6 ?_ ?_ | refine frk7 ?_ ?_ | refine frk8 ?_ ?_ | refine frk9 ?_ ?_) <;> intro h <;> try (exfalso; omega)) | with_reducible refine quiet_and ?_ ?_ | with_reducible refine awp_drawnA mixed (by decide +kernel) ?_ | ((fail_if_success with_reducible refine stp ?_); simp -implicitDefEqProofs only [go_sem, Nat.reduceEqDiff, Nat.reduceAdd, Nat.reduceLT, Nat.reduceMul, Nat.reduceSub, Nat.reduceLeDiff, ↓reduceIte, reduceCtorEq, ↓String.reduceEq, String.reduceNe, Int.reduceToNat, Int.reduceLT, Int.reduceLE, Int.reduceGT, Int.reduceGE, Int.reduceEq, Int.reduceNe, Int.reduceBEq, Int.reduceBNe, Int.reduceAdd, Int.reduceSub, Int.reduceMul, Int.reduceNeg,  *]))
      exact Again.intro (.mk ⟨ds, H.out.2.1, H.out.2.2.1, H.out.2.2.2, HA.out⟩)
    · have hnd : i ∉ ds := fun h => hni (by rw [List.mem_toArray, List.mem_map]; exact ⟨i, h, rfl⟩)
      have hnd2 : (ds ++ [i]).Nodup := by
        rw [List.nodup_append]
        exact ⟨H.out.2.2.1, by simp, fun a ha c hc e => by rw [List.mem_singleton.1 hc] at e; exact hnd (e ▸ ha)⟩
      have hlt2 : ∀ j ∈ ds ++ [i], j < es.length := fun j hj => by
        rcases List.mem_append.1 hj with h | h
        · exact H.out.2.2.2 j h
        · rw [List.mem_singleton.1 h]; exact hi
      have hle := nodup_le _ _ hnd2 hlt2
      rw [List.length_append, List.length_singleton] at hle
      have HD := Hid.mk (And.intro hnd (And.intro hnd2 (And.intro hlt2 (And.intro hle hi))))
      have hbr : b ≠ r := fun e => by have h := HR.out; rw [← e, hb] at h; cases h
      clear hnd hnd2 hlt2 hle hni hi
      repeat' (first | exact tf0 ‹_› | exact tf1 ‹_› | exact False.elim ‹_› | (with_reducible refine Al.intro ?_; intro pb hpb; (try simp only [hupd_none'] at hpb); (repeat rcases hpb with ⟨⟨hpx, hpy⟩, hpb⟩)) | with_reducible refine need ?_ | ((with_reducible first | refine frk0 ?_ ?_ | refine frk1 ?_ ?_ | refine frk2 ?_ ?_ | refine frk3 ?_ ?_ | refine frk4 ?_ ?_ | refine frk5 ?_ ?_ | refine frk6 ?_ ?_ | refine frk7 ?_ ?_ | refine frk8 ?_ ?_ | refine frk9 ?_ ?_) <;> intro h <;> try (exfalso; omega)) | with_reducible refine quiet_and ?_ ?_ | with_reducible refine awp_drawnA mixed (by decide +kernel) ?_ | ((fail_if_success with_reducible refine stp ?_); simp -implicitDefEqProofs only [go_sem, Nat.reduceEqDiff, Nat.reduceAdd, Nat.reduceLT, Nat.reduceMul, Nat.reduceSub, Nat.reduceLeDiff, ↓reduceIte, reduceCtorEq, ↓String.reduceEq, String.reduceNe, Int.reduceToNat, Int.reduceLT, Int.reduceLE, Int.reduceGT, Int.reduceGE, Int.reduceEq, Int.reduceNe, Int.reduceBEq, Int.reduceBNe, Int.reduceAdd, Int.reduceSub, Int.reduceMul, Int.reduceNeg,  *]))
      refine entry_wp i (by rw [hupd_at, if_pos rfl]) (by rw [hupd_ne hbr]; exact hb2) HD.out.2.2.2.2 ?_
      repeat' (first | exact tf0 ‹_› | exact tf1 ‹_› | exact False.elim ‹_› | (with_reducible refine Al.intro ?_; intro pb hpb; (try simp only [hupd_none'] at hpb); (repeat rcases hpb with ⟨⟨hpx, hpy⟩, hpb⟩)) | with_reducible refine need ?_ | ((with_reducible first | refine frk0 ?_ ?_ | refine frk1 ?_ ?_ | refine frk2 ?_ ?_ | refine frk3 ?_ ?_ | refine frk4 ?_ ?_ | refine frk5 ?_ ?_ | refine frk6 ?_ ?_ | refine frk7 ?_ ?_ | refine frk8 ?_ ?_ | refine frk9 ?_ ?_) <;> intro h <;> try (exfalso; omega)) | with_reducible refine quiet_and ?_ ?_ | with_reducible refine awp_drawnA mixed (by decide +kernel) ?_ | ((fail_if_success with_reducible refine stp ?_); simp -implicitDefEqProofs only [go_sem, Nat.reduceEqDiff, Nat.reduceAdd, Nat.reduceLT, Nat.reduceMul, Nat.reduceSub, Nat.reduceLeDiff, ↓reduceIte, reduceCtorEq, ↓String.reduceEq, String.reduceNe, Int.reduceToNat, Int.reduceLT, Int.reduceLE, Int.reduceGT, Int.reduceGE, Int.reduceEq, Int.reduceNe, Int.reduceBEq, Int.reduceBNe, Int.reduceAdd, Int.reduceSub, Int.reduceMul, Int.reduceNeg,  *]))
      refine YieldWP.mono (HH.out.2.2.2.1 r ds i _ _ HR.out (HH.out.2.2.1 r ds m2 _ HR.out H.out.2.1) (by rw [hupd_at, if_pos rfl]) HD.out.2.2.2.2 HD.out.1) ?_
      rintro v m3 ⟨rfl, hI, hr3⟩
      have HI := Hid.mk (And.intro hI hr3)
      clear hI hr3 hr2 hb2
      repeat' (first | exact tf0 ‹_› | exact tf1 ‹_› | exact False.elim ‹_› | (with_reducible refine Al.intro ?_; intro pb hpb; (try simp only [hupd_none'] at hpb); (repeat rcases hpb with ⟨⟨hpx, hpy⟩, hpb⟩)) | with_reducible refine need ?_ | ((with_reducible first | refine frk0 ?_ ?_ | refine frk1 ?_ ?_ | refine frk2 ?_ ?_ | refine frk3 ?_ ?_ | refine frk4 ?_ ?_ | refine frk5 ?_ ?_ | refine frk6 ?_ ?_ | refine frk7 ?_ ?_ | refine frk8 ?_ ?_ | refine frk9 ?_ ?_) <;> intro h <;> try (exfalso; omega)) | with_reducible refine quiet_and ?_ ?_ | with_reducible refine awp_drawnA mixed (by decide +kernel) ?_ | ((fail_if_success with_reducible refine stp ?_); simp -implicitDefEqProofs only [go_sem, Nat.reduceEqDiff, Nat.reduceAdd, Nat.reduceLT, Nat.reduceMul, Nat.reduceSub, Nat.reduceLeDiff, ↓reduceIte, reduceCtorEq, ↓String.reduceEq, String.reduceNe, Int.reduceToNat, Int.reduceLT, Int.reduceLE, Int.reduceGT, Int.reduceGE, Int.reduceEq, Int.reduceNe, Int.reduceBEq, Int.reduceBNe, Int.reduceAdd, Int.reduceSub, Int.reduceMul, Int.reduceNeg,  *]))
      exact Again.intro ⟨es.length - (ds.length + 1), by have := H.out.1; have := HD.out.2.2.2.1; omega, _, Sub.refl _, ds ++ [i], .mk ⟨by rw [List.length_append, List.length_singleton], HI.out.1, HD.out.2.1, HD.out.2.2.1⟩, by rw [HI.out.2]; simp, (by first | (simp only [upd, put, Nat.reduceEqDiff, ↓reduceIte, t0]; done) | (simp [upd, put, t0]; done) | rfl | (simp [upd, put, t0]; rfl)), (by first | (simp only [upd, put, Nat.reduceEqDiff, ↓reduceIte, t5]; done) | (simp [upd, put, t5]; done) | rfl | (simp [upd, put, t5]; rfl))⟩
  · rintro ts m2 ⟨ds, h1, h2, h3, h4⟩
    have HE := Hid.mk (HH.out.2.2.2.2 r ds m2 h1 h4 h2 h3)
    clear h1 h2 h3 h4
    repeat' (first | exact tf0 ‹_› | exact tf1 ‹_› | exact False.elim ‹_› | (with_reducible refine Al.intro ?_; intro pb hpb; (try simp only [hupd_none'] at hpb); (repeat rcases hpb with ⟨⟨hpx, hpy⟩, hpb⟩)) | with_reducible refine need ?_ | ((with_reducible first | refine frk0 ?_ ?_ | refine frk1 ?_ ?_ | refine frk2 ?_ ?_ | refine frk3 ?_ ?_ | refine frk4 ?_ ?_ | refine frk5 ?_ ?_ | refine frk6 ?_ ?_ | refine frk7 ?_ ?_ | refine frk8 ?_ ?_ | refine frk9 ?_ ?_) <;> intro h <;> try (exfalso; omega)) | with_reducible refine quiet_and ?_ ?_ | with_reducible refine awp_drawnA mixed (by decide +kernel) ?_ | ((fail_if_success with_reducible refine stp ?_); simp -implicitDefEqProofs only [go_sem, Nat.reduceEqDiff, Nat.reduceAdd, Nat.reduceLT, Nat.reduceMul, Nat.reduceSub, Nat.reduceLeDiff, ↓reduceIte, reduceCtorEq, ↓String.reduceEq, String.reduceNe, Int.reduceToNat, Int.reduceLT, Int.reduceLE, Int.reduceGT, Int.reduceGE, Int.reduceEq, Int.reduceNe, Int.reduceBEq, Int.reduceBNe, Int.reduceAdd, Int.reduceSub, Int.reduceMul, Int.reduceNeg,  *]))
    exact ⟨_, Sub.refl _, HE.out⟩
end Go.Proofs.YtmifapnmlhchlaaDoor
