/- How much of the wire streams ask for, the document's way. How much of the wire streams ask for, the program's way. What is asked of demand whatever comes. -/
import Derived.Test.YtmifapnmlhchlaaDoorY27
set_option linter.all false
namespace Go.Proofs.YtmifapnmlhchlaaDoor
open Go Go.Proofs.YtmifapnmlhchlaaDoor.Ab
open Go.Proofs (Tryd.prog)
set_option maxRecDepth 100000
/-- One stream's load. -/
def loadS (s : Stm) : Int := if s.2.2.1 = 1 then (costS s * 1000000 + s.2.2.2.1 - 1).tdiv s.2.2.2.1 else 0
/-- All together. -/
def loadF (C : List Stm) : Int := (C.map loadS).sum
open Classical in
noncomputable def loadC (C : List Stm) : Int := if rightC C 1 then loadF C else 0
theorem load_take (C : List Stm) (i : Nat) (h : i < C.length) : loadF (C.take (i + 1)) = loadF (C.take i) + loadS (C.getD i default) := by
  have e : C.take (i + 1) = C.take i ++ [C.getD i default] := by rw [List.take_add_one]; simp [List.getD_eq_getElem?_getD, h]
  unfold loadF
  rw [e, List.map_append, List.sum_append]; simp
theorem loadS_in {s : Stm} (h : rightS s = 0) : 0 ≤ loadS s ∧ loadS s ≤ 2000000000 := by
  have hc := costS_in s
  have hT := (rightS_zero.1 h).2.2.2.2.1
  unfold loadS
  split
  · refine ⟨Int.tdiv_nonneg (by omega) (by omega), ?_⟩
    rw [Int.tdiv_eq_ediv_of_nonneg (by omega)]
    exact Int.le_trans (Int.ediv_le_self _ (by omega)) (by omega)
  · decide
theorem loadF_in {C : List Stm} (h : ∀ s ∈ C, rightS s = 0) : 0 ≤ loadF C ∧ loadF C ≤ 2000000000 * (C.length : Int) := by
  unfold loadF
  induction C with
  | nil => simp
  | cons a t ih =>
    have h1 := ih (fun s hs => h s (List.mem_cons_of_mem _ hs))
    have h2 := loadS_in (h a (by simp))
    rw [List.map_cons, List.sum_cons, List.length_cons]
    omega
set_option maxHeartbeats 4000000 in
theorem rload_spec (G : Nat → AVal) (C : List Stm) (hl : C.length < 9223372036854775808) (v : AVal) (m : Heap) (hs : RdS C v m) : CallWP Tryd.prog G 19 [v] m fun v' m' => v' = .int .i64 (loadC C) ∧ m' = m := by
  have HS := Hid.mk hs
  obtain ⟨L, hL⟩ : ∃ L, L = C.length := ⟨_, rfl⟩
  have H0 := Hid.mk hL
  have ll : (C.map encS).length = L := by rw [List.length_map]; exact hL.symm
  obtain ⟨b, pre, post, N, cap, hw⟩ := hs.ways hL
  have lL : L < 9223372036854775808 := by omega
  clear hs hL hl
  refine callWP_body Tryd.func19 rfl (N := 42) rfl (rs := [.tmp 2]) rfl en_19 (of_decide_eq_true rfl) ?_
  repeat' (first | exact tf0 ‹_› | exact tf1 ‹_› | exact False.elim ‹_› | (with_reducible refine Al.intro ?_; intro pb hpb; (try simp only [hupd_none'] at hpb); (repeat rcases hpb with ⟨⟨hpx, hpy⟩, hpb⟩)) | with_reducible refine need ?_ | ((with_reducible first | refine frk0 ?_ ?_ | refine frk1 ?_ ?_ | refine frk2 ?_ ?_ | refine frk3 ?_ ?_ | refine frk4 ?_ ?_ | refine frk5 ?_ ?_ | refine frk6 ?_ ?_ | refine frk7 ?_ ?_ | refine frk8 ?_ ?_ | refine frk9 ?_ ?_) <;> intro h <;> try (exfalso; omega)) | with_reducible refine quiet_and ?_ ?_ | with_reducible refine awp_drawnA mixed (by decide +kernel) ?_ | ((fail_if_success with_reducible refine stp ?_); simp -implicitDefEqProofs only [go_sem, Nat.reduceEqDiff, Nat.reduceAdd, Nat.reduceLT, Nat.reduceMul, Nat.reduceSub, Nat.reduceLeDiff, ↓reduceIte, reduceCtorEq, ↓String.reduceEq, String.reduceNe, Int.reduceToNat, Int.reduceLT, Int.reduceLE, Int.reduceGT, Int.reduceGE, Int.reduceEq, Int.reduceNe, Int.reduceBEq, Int.reduceBNe, Int.reduceAdd, Int.reduceSub, Int.reduceMul, Int.reduceNeg,  *]))
  refine rright26_spec G C (by have := H0.out; omega) 1 v m HS.out _ (fun b0 hb0 => ?_)
  have HB := Hid.mk hb0
  clear hb0
  cases b0 with
  | false =>
    have HD : Hid (loadC C = 0) := .mk (by unfold loadC; rw [if_neg (fun h => by have := HB.out.2 h; cases this)])
    repeat' (first | exact tf0 ‹_› | exact tf1 ‹_› | exact False.elim ‹_› | (with_reducible refine Al.intro ?_; intro pb hpb; (try simp only [hupd_none'] at hpb); (repeat rcases hpb with ⟨⟨hpx, hpy⟩, hpb⟩)) | with_reducible refine need ?_ | ((with_reducible first | refine frk0 ?_ ?_ | refine frk1 ?_ ?_ | refine frk2 ?_ ?_ | refine frk3 ?_ ?_ | refine frk4 ?_ ?_ | refine frk5 ?_ ?_ | refine frk6 ?_ ?_ | refine frk7 ?_ ?_ | refine frk8 ?_ ?_ | refine frk9 ?_ ?_) <;> intro h <;> try (exfalso; omega)) | with_reducible refine quiet_and ?_ ?_ | with_reducible refine awp_drawnA mixed (by decide +kernel) ?_ | ((fail_if_success with_reducible refine stp ?_); simp -implicitDefEqProofs only [go_sem, Nat.reduceEqDiff, Nat.reduceAdd, Nat.reduceLT, Nat.reduceMul, Nat.reduceSub, Nat.reduceLeDiff, ↓reduceIte, reduceCtorEq, ↓String.reduceEq, String.reduceNe, Int.reduceToNat, Int.reduceLT, Int.reduceLE, Int.reduceGT, Int.reduceGE, Int.reduceEq, Int.reduceNe, Int.reduceBEq, Int.reduceBNe, Int.reduceAdd, Int.reduceSub, Int.reduceMul, Int.reduceNeg,  *]))
    exact ⟨_, Sub.refl _, by rw [HD.out], rfl⟩
  | true =>
    have hr := HB.out.1 rfl
    have HR := Hid.mk hr
    have HD : Hid (loadC C = loadF C) := Hid.mk (by unfold loadC; rw [if_pos hr])
    have hL64 : L ≤ 64 := by have := hr.1; have := H0.out; omega
    clear hr
    rcases hw with ⟨hv, hz⟩ | ⟨hv, hb⟩ | hv
    all_goals (
      repeat' (first | exact tf0 ‹_› | exact tf1 ‹_› | exact False.elim ‹_› | (with_reducible refine Al.intro ?_; intro pb hpb; (try simp only [hupd_none'] at hpb); (repeat rcases hpb with ⟨⟨hpx, hpy⟩, hpb⟩)) | with_reducible refine need ?_ | ((with_reducible first | refine frk0 ?_ ?_ | refine frk1 ?_ ?_ | refine frk2 ?_ ?_ | refine frk3 ?_ ?_ | refine frk4 ?_ ?_ | refine frk5 ?_ ?_ | refine frk6 ?_ ?_ | refine frk7 ?_ ?_ | refine frk8 ?_ ?_ | refine frk9 ?_ ?_) <;> intro h <;> try (exfalso; omega)) | with_reducible refine quiet_and ?_ ?_ | with_reducible refine awp_drawnA mixed (by decide +kernel) ?_ | ((fail_if_success with_reducible refine stp ?_); simp -implicitDefEqProofs only [go_sem, Nat.reduceEqDiff, Nat.reduceAdd, Nat.reduceLT, Nat.reduceMul, Nat.reduceSub, Nat.reduceLeDiff, ↓reduceIte, reduceCtorEq, ↓String.reduceEq, String.reduceNe, Int.reduceToNat, Int.reduceLT, Int.reduceLE, Int.reduceGT, Int.reduceGE, Int.reduceEq, Int.reduceNe, Int.reduceBEq, Int.reduceBNe, Int.reduceAdd, Int.reduceSub, Int.reduceMul, Int.reduceNeg,  *]))
      refine awp_loopP 0 (fun ts m' => ts 3 = .int .i64 (loadF C) ∧ m' = m) (fun k ts m' => ∃ (i : Nat) (a : Int), Hid (k = L - i ∧ i ≤ L ∧ a = loadF (C.take i)) ∧ ts 0 = v ∧ ts 3 = .int .i64 a ∧ ts 4 = .int .i64 (i : Nat) ∧ m' = m) L ⟨0, 0, .mk ⟨rfl, Nat.zero_le _, rfl⟩, by simp [upd, hv], ttt, ttt, rfl⟩ ?_ ?_
      · rintro k ts m2 ⟨i, a, H, t0, t3, t4, hm2⟩
        subst m2
        by_cases hi : i < L
        · have lt : (i : Int) < (L : Int) := by omega
          have hiC : i < C.length := by have := H0.out; omega
          obtain ⟨x, hx⟩ : ∃ x, C.getD i default = x := ⟨_, rfl⟩
          have g0 := sm_at C pre post i hiC x hx
          have g1 := sm_cell C pre post i hiC x hx 2 (by decide)
          have g4 := sm_cell C pre post i hiC x hx 3 (by decide)
          rw [show (encSc x).getD 2 .undef = .int .i64 x.2.2.1 from rfl] at g1
          rw [show (encSc x).getD 3 .undef = .int .i64 x.2.2.2.1 from rfl] at g4
          have g2 := sm_lst C i hiC x hx
          have l1 := sm_len C pre post i hiC
          have hxm : x ∈ C := by rw [← hx]; exact getD_mem C i hiC
          have hxr := HR.out.2.2.1 x hxm
          have hx0 := (rightS_zero.1 hxr).2.2.2.2.1
          have hdi := loadS_in hxr
          have hfi := loadF_in (C := C.take i) (fun s hs => HR.out.2.2.1 s (List.mem_of_mem_take hs))
          rw [← H.out.2.2, List.length_take] at hfi
          have hfi2 : 0 ≤ a ∧ a ≤ 128000000000 := by have e : min i C.length ≤ 64 := by omega
                                                     omega
          have w1 : IntKind.i64.wrap ((i : Int) + 1) = ((i + 1 : Nat) : Int) := by rw [wrap_i64 (by omega) (by omega)]; omega
          have hCt := load_take C i hiC
          rw [hx, ← H.out.2.2] at hCt
          by_cases hc1 : x.2.2.1 = 1
          · have hci := costS_in x
            obtain ⟨c, hc⟩ : ∃ c, c = costS x := ⟨_, rfl⟩
            obtain ⟨q, hq⟩ : ∃ q, q = (c * 1000000 + x.2.2.2.1 - 1).tdiv x.2.2.2.1 := ⟨_, rfl⟩
            have he : loadS x = q := by unfold loadS; rw [if_pos hc1, hq, hc]
            rw [he] at hdi hCt
            rw [← hc] at hci
            have w2 : IntKind.i64.wrap (c * 1000000) = c * 1000000 := wrap_i64 (by omega) (by omega)
            have w3 : IntKind.i64.wrap (c * 1000000 + x.2.2.2.1) = c * 1000000 + x.2.2.2.1 := wrap_i64 (by omega) (by omega)
            have w4 : IntKind.i64.wrap (c * 1000000 + x.2.2.2.1 - 1) = c * 1000000 + x.2.2.2.1 - 1 := wrap_i64 (by omega) (by omega)
            have w5 : IntKind.i64.wrap ((c * 1000000 + x.2.2.2.1 - 1).tdiv x.2.2.2.1) = q := by rw [← hq, wrap_i64 (by omega) (by omega)]
            have w6 : IntKind.i64.wrap (a + q) = a + q := wrap_i64 (by omega) (by omega)
            have nz : x.2.2.2.1 ≠ 0 := by omega
            have HX := Hid.mk (And.intro hCt hc)
            clear hx hCt hiC hc hxm hxr hx0 hdi hfi hfi2 hq hci he
            repeat' (first | exact tf0 ‹_› | exact tf1 ‹_› | exact False.elim ‹_› | (with_reducible refine Al.intro ?_; intro pb hpb; (try simp only [hupd_none'] at hpb); (repeat rcases hpb with ⟨⟨hpx, hpy⟩, hpb⟩)) | with_reducible refine need ?_ | ((with_reducible first | refine frk0 ?_ ?_ | refine frk1 ?_ ?_ | refine frk2 ?_ ?_ | refine frk3 ?_ ?_ | refine frk4 ?_ ?_ | refine frk5 ?_ ?_ | refine frk6 ?_ ?_ | refine frk7 ?_ ?_ | refine frk8 ?_ ?_ | refine frk9 ?_ ?_) <;> intro h <;> try (exfalso; omega)) | with_reducible refine quiet_and ?_ ?_ | with_reducible refine awp_drawnA mixed (by decide +kernel) ?_ | ((fail_if_success with_reducible refine stp ?_); simp -implicitDefEqProofs only [go_sem, Nat.reduceEqDiff, Nat.reduceAdd, Nat.reduceLT, Nat.reduceMul, Nat.reduceSub, Nat.reduceLeDiff, ↓reduceIte, reduceCtorEq, ↓String.reduceEq, String.reduceNe, Int.reduceToNat, Int.reduceLT, Int.reduceLE, Int.reduceGT, Int.reduceGE, Int.reduceEq, Int.reduceNe, Int.reduceBEq, Int.reduceBNe, Int.reduceAdd, Int.reduceSub, Int.reduceMul, Int.reduceNeg,  encSc, *]))
            all_goals (
              refine awp_drawnE [(0, .q), (1, .q), (2, .q), (3, .q), (4, .q), (5, .k), (6, .q), (7, .q), (8, .q), (9, .q), (10, .q), (11, .q), (12, .q), (13, .q), (14, .q), (15, .q), (16, .q), (17, .q), (18, .q), (19, .q), (20, .q), (21, .q)] (fun i => match i with | 5 => .int .i64 c | _ => .undef) (fun _ => False) (fun _ _ => False) mixed (by decide +kernel) ?_
              repeat' (first | exact tf0 ‹_› | exact tf1 ‹_› | exact False.elim ‹_› | (with_reducible refine Al.intro ?_; intro pb hpb; (try simp only [hupd_none'] at hpb); (repeat rcases hpb with ⟨⟨hpx, hpy⟩, hpb⟩)) | with_reducible refine need ?_ | ((with_reducible first | refine frk0 ?_ ?_ | refine frk1 ?_ ?_ | refine frk2 ?_ ?_ | refine frk3 ?_ ?_ | refine frk4 ?_ ?_ | refine frk5 ?_ ?_ | refine frk6 ?_ ?_ | refine frk7 ?_ ?_ | refine frk8 ?_ ?_ | refine frk9 ?_ ?_) <;> intro h <;> try (exfalso; omega)) | with_reducible refine quiet_and ?_ ?_ | with_reducible refine awp_drawnA mixed (by decide +kernel) ?_ | ((fail_if_success with_reducible refine stp ?_); simp -implicitDefEqProofs only [go_sem, Nat.reduceEqDiff, Nat.reduceAdd, Nat.reduceLT, Nat.reduceMul, Nat.reduceSub, Nat.reduceLeDiff, ↓reduceIte, reduceCtorEq, ↓String.reduceEq, String.reduceNe, Int.reduceToNat, Int.reduceLT, Int.reduceLE, Int.reduceGT, Int.reduceGE, Int.reduceEq, Int.reduceNe, Int.reduceBEq, Int.reduceBNe, Int.reduceAdd, Int.reduceSub, Int.reduceMul, Int.reduceNeg,  encSc, *]))
              · exact fun m' _ => by have hh := cost_spec G x m'; unfold encS at hh; simp only [encSc, hc1] at hh; rw [HX.out.2]; exact hh
              exact Again.intro ⟨L - (i + 1), by have := H.out; omega, _, Sub.refl _, i + 1, a + q, .mk ⟨rfl, by omega, by rw [HX.out.1]⟩, (by first | (simp only [upd, put, Nat.reduceEqDiff, ↓reduceIte, t0, hv]; done) | (simp [upd, put, t0, hv]; done) | rfl | (simp [upd, put, t0, hv]; rfl)), ttt, ttt, rfl⟩)
          · have he : loadS x = 0 := by unfold loadS; rw [if_neg hc1]
            rw [he, Int.add_zero] at hCt
            have HX := Hid.mk hCt
            clear hx hCt hiC hxm hxr hx0 hdi hfi hfi2 he
            repeat' (first | exact tf0 ‹_› | exact tf1 ‹_› | exact False.elim ‹_› | (with_reducible refine Al.intro ?_; intro pb hpb; (try simp only [hupd_none'] at hpb); (repeat rcases hpb with ⟨⟨hpx, hpy⟩, hpb⟩)) | with_reducible refine need ?_ | ((with_reducible first | refine frk0 ?_ ?_ | refine frk1 ?_ ?_ | refine frk2 ?_ ?_ | refine frk3 ?_ ?_ | refine frk4 ?_ ?_ | refine frk5 ?_ ?_ | refine frk6 ?_ ?_ | refine frk7 ?_ ?_ | refine frk8 ?_ ?_ | refine frk9 ?_ ?_) <;> intro h <;> try (exfalso; omega)) | with_reducible refine quiet_and ?_ ?_ | with_reducible refine awp_drawnA mixed (by decide +kernel) ?_ | ((fail_if_success with_reducible refine stp ?_); simp -implicitDefEqProofs only [go_sem, Nat.reduceEqDiff, Nat.reduceAdd, Nat.reduceLT, Nat.reduceMul, Nat.reduceSub, Nat.reduceLeDiff, ↓reduceIte, reduceCtorEq, ↓String.reduceEq, String.reduceNe, Int.reduceToNat, Int.reduceLT, Int.reduceLE, Int.reduceGT, Int.reduceGE, Int.reduceEq, Int.reduceNe, Int.reduceBEq, Int.reduceBNe, Int.reduceAdd, Int.reduceSub, Int.reduceMul, Int.reduceNeg,  encSc, *]))
            all_goals exact Again.intro ⟨L - (i + 1), by have := H.out; omega, _, Sub.refl _, i + 1, a, .mk ⟨rfl, by omega, by rw [HX.out]⟩, (by first | (simp only [upd, put, Nat.reduceEqDiff, ↓reduceIte, t0, hv]; done) | (simp [upd, put, t0, hv]; done) | rfl | (simp [upd, put, t0, hv]; rfl)), (by first | (simp only [upd, put, Nat.reduceEqDiff, ↓reduceIte, t3]; done) | (simp [upd, put, t3]; done) | rfl | (simp [upd, put, t3]; rfl)), ttt, rfl⟩
        · have lt : ¬ (i : Int) < (L : Int) := by omega
          have e : a = loadF C := by have h := H.out.2.2; rwa [List.take_of_length_le (by have := H0.out; omega)] at h
          have HE := Hid.mk e
          clear e
          repeat' (first | exact tf0 ‹_› | exact tf1 ‹_› | exact False.elim ‹_› | (with_reducible refine Al.intro ?_; intro pb hpb; (try simp only [hupd_none'] at hpb); (repeat rcases hpb with ⟨⟨hpx, hpy⟩, hpb⟩)) | with_reducible refine need ?_ | ((with_reducible first | refine frk0 ?_ ?_ | refine frk1 ?_ ?_ | refine frk2 ?_ ?_ | refine frk3 ?_ ?_ | refine frk4 ?_ ?_ | refine frk5 ?_ ?_ | refine frk6 ?_ ?_ | refine frk7 ?_ ?_ | refine frk8 ?_ ?_ | refine frk9 ?_ ?_) <;> intro h <;> try (exfalso; omega)) | with_reducible refine quiet_and ?_ ?_ | with_reducible refine awp_drawnA mixed (by decide +kernel) ?_ | ((fail_if_success with_reducible refine stp ?_); simp -implicitDefEqProofs only [go_sem, Nat.reduceEqDiff, Nat.reduceAdd, Nat.reduceLT, Nat.reduceMul, Nat.reduceSub, Nat.reduceLeDiff, ↓reduceIte, reduceCtorEq, ↓String.reduceEq, String.reduceNe, Int.reduceToNat, Int.reduceLT, Int.reduceLE, Int.reduceGT, Int.reduceGE, Int.reduceEq, Int.reduceNe, Int.reduceBEq, Int.reduceBNe, Int.reduceAdd, Int.reduceSub, Int.reduceMul, Int.reduceNeg,  *]))
          exact Again.intro ⟨by rw [← HE.out]; exact ((by first | (simp only [upd, put, Nat.reduceEqDiff, ↓reduceIte, t3]; done) | (simp [upd, put, t3]; done) | rfl | (simp [upd, put, t3]; rfl))), rfl⟩
      · rintro ts m2 ⟨t3, hm2⟩
        subst m2
        repeat' (first | exact tf0 ‹_› | exact tf1 ‹_› | exact False.elim ‹_› | (with_reducible refine Al.intro ?_; intro pb hpb; (try simp only [hupd_none'] at hpb); (repeat rcases hpb with ⟨⟨hpx, hpy⟩, hpb⟩)) | with_reducible refine need ?_ | ((with_reducible first | refine frk0 ?_ ?_ | refine frk1 ?_ ?_ | refine frk2 ?_ ?_ | refine frk3 ?_ ?_ | refine frk4 ?_ ?_ | refine frk5 ?_ ?_ | refine frk6 ?_ ?_ | refine frk7 ?_ ?_ | refine frk8 ?_ ?_ | refine frk9 ?_ ?_) <;> intro h <;> try (exfalso; omega)) | with_reducible refine quiet_and ?_ ?_ | with_reducible refine awp_drawnA mixed (by decide +kernel) ?_ | ((fail_if_success with_reducible refine stp ?_); simp -implicitDefEqProofs only [go_sem, Nat.reduceEqDiff, Nat.reduceAdd, Nat.reduceLT, Nat.reduceMul, Nat.reduceSub, Nat.reduceLeDiff, ↓reduceIte, reduceCtorEq, ↓String.reduceEq, String.reduceNe, Int.reduceToNat, Int.reduceLT, Int.reduceLE, Int.reduceGT, Int.reduceGE, Int.reduceEq, Int.reduceNe, Int.reduceBEq, Int.reduceBNe, Int.reduceAdd, Int.reduceSub, Int.reduceMul, Int.reduceNeg,  *]))
        exact ⟨_, Sub.refl _, by rw [HD.out], rfl⟩)
end Go.Proofs.YtmifapnmlhchlaaDoor
namespace Go.Proofs.YtmifapnmlhchlaaDoor
open Go Go.Proofs.YtmifapnmlhchlaaDoor.Ab
open Go.Proofs (Tryd.prog)
set_option maxRecDepth 100000
theorem ceil_nat (p t : Nat) (ht : 0 < t) : (p + t - 1) / t = if 0 < p % t then p / t + 1 else p / t := by
  have e := Nat.div_add_mod p t
  have hl := Nat.mod_lt p ht
  generalize p / t = q at *
  generalize p % t = r at *
  subst e
  split
  · rw [show t * q + r + t - 1 = (r - 1) + t * (q + 1) by rw [Nat.mul_add]; omega, Nat.add_mul_div_left _ _ ht, Nat.div_eq_of_lt (by omega)]; omega
  · rw [show t * q + r + t - 1 = (t - 1) + t * q by omega, Nat.add_mul_div_left _ _ ht, Nat.div_eq_of_lt (by omega)]; omega
theorem scale_load (c T : Int) (hc : 1 ≤ c) (hc2 : c ≤ 160) (hT : 1 ≤ T) : scaleF (-c) 1000000 T = (-((c * 1000000 + T - 1).tdiv T), true) := by
  obtain ⟨cn, rfl⟩ : ∃ n : Nat, c = n := ⟨c.toNat, by omega⟩
  obtain ⟨tn, rfl⟩ : ∃ n : Nat, T = n := ⟨T.toNat, by omega⟩
  have h1 : (absN (-(cn : Int))).toNat = cn := by unfold absN; split <;> omega
  have h2 : (absN 1000000).toNat = 1000000 := by unfold absN; simp
  have hlt : ¬ (tn : Int) < 1 := by omega
  have hb : (decide (-(cn : Int) < 0) != decide ((1000000 : Int) < 0)) = true := by simp; omega
  simp only [scaleF, hlt, if_false, h1, h2, hb, Int.toNat_natCast, true_and]
  have hce := ceil_nat (cn * 1000000) tn (by omega)
  rw [← hce]
  have hle : (cn * 1000000 + tn - 1) / tn ≤ 160000001 := by
    rw [hce]
    have := Nat.div_le_self (cn * 1000000) tn
    split <;> omega
  rw [signedF_ok _ _ (.inr ⟨rfl, by omega⟩), if_pos rfl]
  have : ((cn : Int) * 1000000 + (tn : Int) - 1) = ((cn * 1000000 + tn - 1 : Nat) : Int) := by omega
  rw [this, Int.tdiv_eq_ediv_of_nonneg (by omega)]
  rfl
theorem load_skip {s : Stm} (hc : s.2.2.1 ≠ 1) : loadS s = 0 := by unfold loadS; rw [if_neg hc]
set_option maxHeartbeats 4000000 in
theorem pload_spec (G : Nat → AVal) (hG : DivOK G) (C : List Stm) (hl : C.length < 9223372036854775808) (v : AVal) (m : Heap) (hs : RdS C v m) : CallWP Tryd.prog G 18 [v] m fun v' m' => v' = .int .i64 (loadC C) ∧ m' = m := by
  have HS := Hid.mk (And.intro hs (And.intro hG hl))
  obtain ⟨b, pre, post, N, cap, hw⟩ := hs.ways rfl
  clear hs hG hl
  rcases hw with ⟨hv, hz⟩ | ⟨hv, hb⟩ | hv
  all_goals (
    refine callWP_body Tryd.func18 rfl (N := 26) rfl (rs := [.tmp 2]) rfl en_18 (of_decide_eq_true rfl) ?_
    repeat' (first | exact tf0 ‹_› | exact tf1 ‹_› | exact False.elim ‹_› | (with_reducible refine Al.intro ?_; intro pb hpb; (try simp only [hupd_none'] at hpb); (repeat rcases hpb with ⟨⟨hpx, hpy⟩, hpb⟩)) | with_reducible refine need ?_ | ((with_reducible first | refine frk0 ?_ ?_ | refine frk1 ?_ ?_ | refine frk2 ?_ ?_ | refine frk3 ?_ ?_ | refine frk4 ?_ ?_ | refine frk5 ?_ ?_ | refine frk6 ?_ ?_ | refine frk7 ?_ ?_ | refine frk8 ?_ ?_ | refine frk9 ?_ ?_) <;> intro h <;> try (exfalso; omega)) | with_reducible refine quiet_and ?_ ?_ | with_reducible refine awp_drawnA mixed (by decide +kernel) ?_ | ((fail_if_success with_reducible refine stp ?_); simp -implicitDefEqProofs only [go_sem, Nat.reduceEqDiff, Nat.reduceAdd, Nat.reduceLT, Nat.reduceMul, Nat.reduceSub, Nat.reduceLeDiff, ↓reduceIte, reduceCtorEq, ↓String.reduceEq, String.reduceNe, Int.reduceToNat, Int.reduceLT, Int.reduceLE, Int.reduceGT, Int.reduceGE, Int.reduceEq, Int.reduceNe, Int.reduceBEq, Int.reduceBNe, Int.reduceAdd, Int.reduceSub, Int.reduceMul, Int.reduceNeg,  *]))
    refine pdright_spec G C HS.out.2.2 1 _ _ (by rw [← hv]; exact HS.out.1) _ (fun b1 hb1 => ?_)
    have HB := Hid.mk hb1
    clear hb1
    cases b1 with
    | false =>
      have hz0 : Hid (loadC C = 0) := .mk (by unfold loadC; rw [if_neg (fun h => by have := HB.out.2 h; cases this)])
      repeat' (first | exact tf0 ‹_› | exact tf1 ‹_› | exact False.elim ‹_› | (with_reducible refine Al.intro ?_; intro pb hpb; (try simp only [hupd_none'] at hpb); (repeat rcases hpb with ⟨⟨hpx, hpy⟩, hpb⟩)) | with_reducible refine need ?_ | ((with_reducible first | refine frk0 ?_ ?_ | refine frk1 ?_ ?_ | refine frk2 ?_ ?_ | refine frk3 ?_ ?_ | refine frk4 ?_ ?_ | refine frk5 ?_ ?_ | refine frk6 ?_ ?_ | refine frk7 ?_ ?_ | refine frk8 ?_ ?_ | refine frk9 ?_ ?_) <;> intro h <;> try (exfalso; omega)) | with_reducible refine quiet_and ?_ ?_ | with_reducible refine awp_drawnA mixed (by decide +kernel) ?_ | ((fail_if_success with_reducible refine stp ?_); simp -implicitDefEqProofs only [go_sem, Nat.reduceEqDiff, Nat.reduceAdd, Nat.reduceLT, Nat.reduceMul, Nat.reduceSub, Nat.reduceLeDiff, ↓reduceIte, reduceCtorEq, ↓String.reduceEq, String.reduceNe, Int.reduceToNat, Int.reduceLT, Int.reduceLE, Int.reduceGT, Int.reduceGE, Int.reduceEq, Int.reduceNe, Int.reduceBEq, Int.reduceBNe, Int.reduceAdd, Int.reduceSub, Int.reduceMul, Int.reduceNeg,  *]))
      exact ⟨_, Sub.refl _, by rw [hz0.out], rfl⟩
    | true =>
      have hr := HB.out.1 rfl
      have hz0 : Hid (loadC C = loadF C) := .mk (by unfold loadC; rw [if_pos hr])
      have HR := Hid.mk hr
      clear hr
      repeat' (first | exact tf0 ‹_› | exact tf1 ‹_› | exact False.elim ‹_› | (with_reducible refine Al.intro ?_; intro pb hpb; (try simp only [hupd_none'] at hpb); (repeat rcases hpb with ⟨⟨hpx, hpy⟩, hpb⟩)) | with_reducible refine need ?_ | ((with_reducible first | refine frk0 ?_ ?_ | refine frk1 ?_ ?_ | refine frk2 ?_ ?_ | refine frk3 ?_ ?_ | refine frk4 ?_ ?_ | refine frk5 ?_ ?_ | refine frk6 ?_ ?_ | refine frk7 ?_ ?_ | refine frk8 ?_ ?_ | refine frk9 ?_ ?_) <;> intro h <;> try (exfalso; omega)) | with_reducible refine quiet_and ?_ ?_ | with_reducible refine awp_drawnA mixed (by decide +kernel) ?_ | ((fail_if_success with_reducible refine stp ?_); simp -implicitDefEqProofs only [go_sem, Nat.reduceEqDiff, Nat.reduceAdd, Nat.reduceLT, Nat.reduceMul, Nat.reduceSub, Nat.reduceLeDiff, ↓reduceIte, reduceCtorEq, ↓String.reduceEq, String.reduceNe, Int.reduceToNat, Int.reduceLT, Int.reduceLE, Int.reduceGT, Int.reduceGE, Int.reduceEq, Int.reduceNe, Int.reduceBEq, Int.reduceBNe, Int.reduceAdd, Int.reduceSub, Int.reduceMul, Int.reduceNeg,  *]))
      obtain ⟨p3, e3⟩ : ∃ p, p = pb := ⟨_, rfl⟩
      subst e3
      have HN := Hid.mk hpb
      clear hpb
      refine pdue_spec G C _ _ (by rw [← hv]; exact HS.out.1.into ((Sub.refl _).fresh HN.out)) _ (fun pv hpv => ?_)
      simp only [hupd_none'] at hpv
      obtain ⟨⟨q1, q2⟩, q7⟩ := hpv
      have HV := Hid.mk q7
      clear q7
      repeat' (first | exact tf0 ‹_› | exact tf1 ‹_› | exact False.elim ‹_› | (with_reducible refine Al.intro ?_; intro pb hpb; (try simp only [hupd_none'] at hpb); (repeat rcases hpb with ⟨⟨hpx, hpy⟩, hpb⟩)) | with_reducible refine need ?_ | ((with_reducible first | refine frk0 ?_ ?_ | refine frk1 ?_ ?_ | refine frk2 ?_ ?_ | refine frk3 ?_ ?_ | refine frk4 ?_ ?_ | refine frk5 ?_ ?_ | refine frk6 ?_ ?_ | refine frk7 ?_ ?_ | refine frk8 ?_ ?_ | refine frk9 ?_ ?_) <;> intro h <;> try (exfalso; omega)) | with_reducible refine quiet_and ?_ ?_ | with_reducible refine awp_drawnA mixed (by decide +kernel) ?_ | ((fail_if_success with_reducible refine stp ?_); simp -implicitDefEqProofs only [go_sem, Nat.reduceEqDiff, Nat.reduceAdd, Nat.reduceLT, Nat.reduceMul, Nat.reduceSub, Nat.reduceLeDiff, ↓reduceIte, reduceCtorEq, ↓String.reduceEq, String.reduceNe, Int.reduceToNat, Int.reduceLT, Int.reduceLE, Int.reduceGT, Int.reduceGE, Int.reduceEq, Int.reduceNe, Int.reduceBEq, Int.reduceBNe, Int.reduceAdd, Int.reduceSub, Int.reduceMul, Int.reduceNeg,  *]))
      refine awp_range' (gf := 44) (fs := []) (cs := [.ptr pv 0]) (by rfl) en_44 (fun l LB HLB hl => ?_)
      simp only [hupd_none'] at hl
      obtain ⟨⟨r1, r2⟩, ⟨r3, r4⟩, r9⟩ := hl
      have HL := Hid.mk r9
      clear r9
      refine pdue1_spec G C (by have := HR.out.1; omega) v (m0 := m) (fun i m' => m' l = some LB ∧ m' p3 = some (.cells [.int .i64 (loadF (C.take i))] 1) ∧ Sub m m') _ ?_ ?_ HS.out.1 (fun i m' h => h.2.2) (fun i m' b x h hb => ⟨kept h.1 hb, kept h.2.1 hb, h.2.2.fresh (h.2.2.gone hb)⟩) ?_ ?_ ?_
      · exact ⟨by rw [hupd_at, if_pos rfl], by rw [hupd_ne r4, hupd_ne q2, hupd_at, if_pos rfl]; rfl, (((Sub.refl _).fresh HN.out).fresh HV.out).fresh HL.out⟩
      · rw [hupd_ne r2, hupd_at, if_pos rfl, hv]
      · rintro i hi hc m' ⟨h1, h3, hsm⟩
        have hlb := h1.trans (congrArg some HLB.out)
        have frl : ∀ b', m' b' = none → (l = b') = False := fun b' h => by
          rw [eq_iff_iff, iff_false]; rintro rfl; rw [h1] at h; cases h
        have fr3 : ∀ b', m' b' = none → (p3 = b') = False := fun b' h => by
          rw [eq_iff_iff, iff_false]; rintro rfl; rw [h3] at h; cases h
        have frl2 : ∀ b', m' b' = none → (b' = l) = False := fun b' h => by
          rw [eq_iff_iff, iff_false]; rintro rfl; rw [h1] at h; cases h
        have fr32 : ∀ b', m' b' = none → (b' = p3) = False := fun b' h => by
          rw [eq_iff_iff, iff_false]; rintro rfl; rw [h3] at h; cases h
        have hrx : rightS (C.getD i default) = 0 := HR.out.2.2.1 _ (by rw [show C.getD i default = C[i] by simp [List.getD_eq_getElem?_getD, hi]]; exact List.getElem_mem hi)
        have hlt := load_take C i hi
        obtain ⟨x, hx⟩ : ∃ x, C.getD i default = x := ⟨_, rfl⟩
        rw [hx] at hc hrx hlt ⊢
        have hdi := loadS_in hrx
        have hci := costS_in x
        have hcp := costS_pos hrx
        have hT := (rightS_zero.1 hrx).2.2.2.2.1
        have hdf := loadF_in (C := C.take i) (fun s hs => HR.out.2.2.1 s (List.mem_of_mem_take hs))
        have hln : (C.take i).length ≤ 64 := by rw [List.length_take]; have := HR.out.1; omega
        have HC := Hid.mk (pcost_spec G HS.out.2.1 x)
        have hsl : loadS x = (costS x * 1000000 + x.2.2.2.1 - 1).tdiv x.2.2.2.1 := by unfold loadS; rw [if_pos hc]
        obtain ⟨co, hco⟩ : ∃ co, costS x = co := ⟨_, rfl⟩
        obtain ⟨ld, hld⟩ : ∃ ld, loadS x = ld := ⟨_, rfl⟩
        obtain ⟨ac, hac⟩ : ∃ ac, loadF (C.take i) = ac := ⟨_, rfl⟩
        rw [hco] at HC hci hcp hsl
        rw [hld] at hdi hlt hsl
        rw [hac] at hdf h3 hlt
        have HJ := Hid.mk (scale_spec G (-co) 1000000 x.2.2.2.1 ⟨by omega, by omega⟩ ⟨by decide, by decide⟩ ⟨by omega, by omega⟩ (by omega))
        rw [scale_load co x.2.2.2.1 hcp hci.2 hT.1, ← hsl] at HJ
        have w0 : IntKind.i64.wrap (-co) = -co := wrap_i64 (by omega) (by omega)
        have w00 : IntKind.i64.wrap (0 - co) = -co := by rw [Int.zero_sub]; exact w0
        have w2 : IntKind.i64.wrap (ac - -ld) = ac + ld := by rw [wrap_i64 (by omega) (by omega)]; omega
        have HX := Hid.mk (And.intro hsm (And.intro h1 hlt))
        clear hc hrx hlt hdi hci hcp hT hdf hln hco hld hac hsm h1 hx hi hsl
        refine yield_of hlb rfl (by decide +kernel) ?_
        repeat' (first | exact tf0 ‹_› | exact tf1 ‹_› | exact False.elim ‹_› | (with_reducible refine Al.intro ?_; intro pb hpb; (try simp only [hupd_none'] at hpb); (repeat rcases hpb with ⟨⟨hpx, hpy⟩, hpb⟩)) | with_reducible refine need ?_ | ((with_reducible first | refine frk0 ?_ ?_ | refine frk1 ?_ ?_ | refine frk2 ?_ ?_ | refine frk3 ?_ ?_ | refine frk4 ?_ ?_ | refine frk5 ?_ ?_ | refine frk6 ?_ ?_ | refine frk7 ?_ ?_ | refine frk8 ?_ ?_ | refine frk9 ?_ ?_) <;> intro h <;> try (exfalso; omega)) | with_reducible refine quiet_and ?_ ?_ | with_reducible refine awp_drawnA mixed (by decide +kernel) ?_ | ((fail_if_success with_reducible refine stp ?_); simp -implicitDefEqProofs only [go_sem, Nat.reduceEqDiff, Nat.reduceAdd, Nat.reduceLT, Nat.reduceMul, Nat.reduceSub, Nat.reduceLeDiff, ↓reduceIte, reduceCtorEq, ↓String.reduceEq, String.reduceNe, Int.reduceToNat, Int.reduceLT, Int.reduceLE, Int.reduceGT, Int.reduceGE, Int.reduceEq, Int.reduceNe, Int.reduceBEq, Int.reduceBNe, Int.reduceAdd, Int.reduceSub, Int.reduceMul, Int.reduceNeg,  encSc, *]))
        refine awp_drawnE [(0, .q), (1, .k), (2, .q), (3, .q), (4, .q), (5, .k), (6, .q), (7, .q), (8, .q), (9, .q), (10, .q)] (fun i => match i with | 1 => .int .i64 co | 5 => .tuple [.int .i64 (-ld), .bool true] | _ => .undef) (fun _ => False) (fun _ _ => False) rfl (by decide +kernel) ?_
        repeat' (first | exact tf0 ‹_› | exact tf1 ‹_› | exact False.elim ‹_› | (with_reducible refine Al.intro ?_; intro pb hpb; (try simp only [hupd_none'] at hpb); (repeat rcases hpb with ⟨⟨hpx, hpy⟩, hpb⟩)) | with_reducible refine need ?_ | ((with_reducible first | refine frk0 ?_ ?_ | refine frk1 ?_ ?_ | refine frk2 ?_ ?_ | refine frk3 ?_ ?_ | refine frk4 ?_ ?_ | refine frk5 ?_ ?_ | refine frk6 ?_ ?_ | refine frk7 ?_ ?_ | refine frk8 ?_ ?_ | refine frk9 ?_ ?_) <;> intro h <;> try (exfalso; omega)) | with_reducible refine quiet_and ?_ ?_ | with_reducible refine awp_drawnA mixed (by decide +kernel) ?_ | ((fail_if_success with_reducible refine stp ?_); simp -implicitDefEqProofs only [go_sem, Nat.reduceEqDiff, Nat.reduceAdd, Nat.reduceLT, Nat.reduceMul, Nat.reduceSub, Nat.reduceLeDiff, ↓reduceIte, reduceCtorEq, ↓String.reduceEq, String.reduceNe, Int.reduceToNat, Int.reduceLT, Int.reduceLE, Int.reduceGT, Int.reduceGE, Int.reduceEq, Int.reduceNe, Int.reduceBEq, Int.reduceBNe, Int.reduceAdd, Int.reduceSub, Int.reduceMul, Int.reduceNeg,  encSc, *]))
        · exact fun m3 _ => HC.out m3
        · exact fun m3 _ => HJ.out m3
        refine ⟨by rw [hupd_ne r3, hupd_at, if_pos rfl], rfl, by rw [hupd_at, if_pos rfl]; exact (congrArg some HLB.out).symm, by rw [hupd_ne r4, hupd_at, if_pos rfl, HX.out.2.2], ?_⟩
        intro y z hy
        have n3 : y ≠ p3 := fun e => by rw [e, HN.out] at hy; cases hy
        have nl : y ≠ l := fun e => by rw [e, HL.out] at hy; cases hy
        have nb : y ≠ pb := fun e => by rw [e, HX.out.1.gone hpb] at hy; cases hy
        rw [hupd_ne nl, hupd_ne n3, hupd_ne nl, hupd_ne nb]; exact HX.out.1 _ _ hy
      · rintro i hi hc m' ⟨h1, h3, hsm⟩
        exact ⟨h1, by rw [h3, load_take C i hi, load_skip hc, Int.add_zero], hsm⟩
      · rintro m' ⟨h1, h3, hsm⟩
        rw [List.take_length] at h3
        refine ⟨_, _, _, _, _, _, _, hupd m p3 (.cells [.int .i64 (loadF C)] 1), h1.trans (congrArg some HLB.out), by decide, ?_, ?_, ?_⟩
        · intro y z hy
          by_cases e : y = p3
          · rw [e, hupd_at, if_pos rfl] at hy; rw [e, h3]; exact hy
          · rw [hupd_ne e] at hy; exact hsm _ _ hy
        · rw [hupd_ne r3]; exact HL.out
        · have SM : Sub m (hupd m p3 (.cells [.int .i64 (loadF C)] 1)) := (Sub.refl _).fresh HN.out
          have SM := Hid.mk SM
          clear h1 h3 hsm
          show blockA 0 _ _ _ _
          repeat' (first | exact tf0 ‹_› | exact tf1 ‹_› | exact False.elim ‹_› | (with_reducible refine Al.intro ?_; intro pb hpb; (try simp only [hupd_none'] at hpb); (repeat rcases hpb with ⟨⟨hpx, hpy⟩, hpb⟩)) | with_reducible refine need ?_ | ((with_reducible first | refine frk0 ?_ ?_ | refine frk1 ?_ ?_ | refine frk2 ?_ ?_ | refine frk3 ?_ ?_ | refine frk4 ?_ ?_ | refine frk5 ?_ ?_ | refine frk6 ?_ ?_ | refine frk7 ?_ ?_ | refine frk8 ?_ ?_ | refine frk9 ?_ ?_) <;> intro h <;> try (exfalso; omega)) | with_reducible refine quiet_and ?_ ?_ | with_reducible refine awp_drawnA mixed (by decide +kernel) ?_ | ((fail_if_success with_reducible refine stp ?_); simp -implicitDefEqProofs only [go_sem, Nat.reduceEqDiff, Nat.reduceAdd, Nat.reduceLT, Nat.reduceMul, Nat.reduceSub, Nat.reduceLeDiff, ↓reduceIte, reduceCtorEq, ↓String.reduceEq, String.reduceNe, Int.reduceToNat, Int.reduceLT, Int.reduceLE, Int.reduceGT, Int.reduceGE, Int.reduceEq, Int.reduceNe, Int.reduceBEq, Int.reduceBNe, Int.reduceAdd, Int.reduceSub, Int.reduceMul, Int.reduceNeg,  *]))
          exact ⟨m, SM.out, by rw [hz0.out], rfl⟩)
end Go.Proofs.YtmifapnmlhchlaaDoor
namespace Go.Proofs.YtmifapnmlhchlaaDoor
open Go Go.Proofs.YtmifapnmlhchlaaDoor.Ab
open Go.Proofs (Tryd.prog)
set_option maxRecDepth 100000
theorem rdS_one (s : Stm) (b : Nat) (m : Heap) (h : m b = some (.cells (encSc s) 7)) : RdS [s] (.slice b 0 1 1) m :=
  .inl (.inr ⟨b, _, h, [], [], 7, 1, rfl, by simp, by simp, by simp⟩)
theorem rdS_nil (m : Heap) : RdS [] .nils m := .inl (.inl ⟨rfl, rfl⟩)
theorem rightC_one {s : Stm} {n : Int} (h : rightS s = 0) (h1 : 1 ≤ n) (h2 : n ≤ 1073741824) (h3 : n ≤ s.2.2.2.2.1) : rightC [s] n := by
  refine ⟨by simp, ⟨h1, h2⟩, fun x hx => by rw [List.mem_singleton.1 hx]; exact h, fun i hi => ?_, fun x hx _ => by rw [List.mem_singleton.1 hx]; exact h3⟩
  have e : i = 0 := by simp at hi; exact hi
  subst e
  have := findF_at (C := [s]) (id := s.1) (i := 0) (by simp) rfl (by simp)
  simp only [List.getD_cons_zero]
  rw [this]
  exact Int.le_refl _
theorem rightC_none {n : Int} (h1 : 1 ≤ n) (h2 : n ≤ 1073741824) : rightC [] n :=
  ⟨by simp, ⟨h1, h2⟩, (fun x hx => by cases hx), (fun i hi => by simp at hi), (fun x hx => by cases hx)⟩
abbrev sA : Stm := (1, 0, 1, 2000, 1000, 0, 8)
abbrev sB : Stm := (1, 0, 1, 2000, 200, 0, 8)
theorem rA : rightS sA = 0 := by decide
theorem rB : rightS sB = 0 := by decide
theorem cA : costS sA = 160 := by decide
theorem cB : costS sB = 160 := by decide
theorem dem1 (s : Stm) (x n : Int) : demF [s] x n = demS s x n := by unfold demF; simp
theorem blk1 {s : Stm} (h : rightS s = 0) : blkF [s] = costS s := by unfold blkF; simp only [List.foldl_cons, List.foldl_nil]; rw [if_pos (by have := costS_pos h; omega)]
theorem pNil : PassR [] 1 100 0 true := pass_true (rightC_none (by decide) (by decide)) (by decide) (by decide) (fun x hx => by obtain ⟨s, hs, _⟩ := hx; cases hs)
theorem pA : PassR [sA] 1 5000 0 true := by
  refine pass_true (rightC_one rA (by decide) (by decide) (by decide)) (by decide) (by decide) (fun x hx => ?_)
  obtain ⟨s, hs, hc, k, hk, _⟩ := hx
  rw [List.mem_singleton.1 hs] at hk
  have hk : x = 1000 + (k : Int) * 2000 := by simpa using hk
  rw [blk1 rA, cA, dem1]
  have : demS sA x 1 = ((k : Int) + 1) * 160 := by
    unfold demS
    rw [if_pos ⟨rfl, by show 0 ≤ x + 1 - 1 - 1000; omega⟩, cA]
    congr 2
    show (x + 1 - 1 - 1000).tdiv 2000 = _
    rw [Int.tdiv_eq_ediv_of_nonneg (by omega)]; omega
  rw [this]; omega
theorem pB : PassR [sB] 1 1000 200 false := by
  refine pass_false (rightC_one rB (by decide) (by decide) (by decide)) (by decide) (by decide) ⟨sB, by simp, rfl, 0, by decide, by decide⟩ (by rw [blk1 rB, cB, dem1]; decide) (fun y hy hlt => ?_)
  obtain ⟨s, hs, hc, k, hk, _⟩ := hy
  rw [List.mem_singleton.1 hs] at hk
  have hk : y = 200 + (k : Int) * 2000 := by simpa using hk
  omega
theorem dC1 {s : Stm} {x n v : Int} (h : rightC [s] n) (h1 : 1 ≤ x) (h2 : x ≤ 65536) (hv : demS s x n = v) : demC [s] x n = v := by rw [demC_pos h1 h2 h, dem1, hv]
set_option maxHeartbeats 4000000 in
theorem live26_spec (G : Nat → AVal) (hG : DivOK G) (m : Heap) : CallWP Tryd.prog G 15 [] m fun v m' => v = .bool true ∧ m' = m := by
  have rcA := rightC_one rA (n := 1) (by decide) (by decide) (by decide)
  have HF := Hid.mk (And.intro hG (And.intro (dC1 (v := 160) rcA (x := 1000) (by decide) (by decide) (by decide)) (And.intro (dC1 (v := 0) rcA (x := 999) (by decide) (by decide) (by decide)) (And.intro (dC1 (v := 320) rcA (x := 3000) (by decide) (by decide) (by decide)) (show loadC [sA] = 80000 by unfold loadC; rw [if_pos rcA]; decide)))))
  clear hG rcA
  refine callWP_body Tryd.func15 rfl (N := 72) rfl (rs := [.tmp 0]) rfl en_15 (of_decide_eq_true rfl) ?_
  repeat' (first | exact tf0 ‹_› | exact tf1 ‹_› | exact False.elim ‹_› | (with_reducible refine Al.intro ?_; intro pb hpb; (try simp only [hupd_none'] at hpb); (repeat rcases hpb with ⟨⟨hpx, hpy⟩, hpb⟩)) | with_reducible refine need ?_ | ((with_reducible first | refine frk0 ?_ ?_ | refine frk1 ?_ ?_ | refine frk2 ?_ ?_ | refine frk3 ?_ ?_ | refine frk4 ?_ ?_ | refine frk5 ?_ ?_ | refine frk6 ?_ ?_ | refine frk7 ?_ ?_ | refine frk8 ?_ ?_ | refine frk9 ?_ ?_) <;> intro h <;> try (exfalso; omega)) | with_reducible refine quiet_and ?_ ?_ | with_reducible refine awp_drawnA mixed (by decide +kernel) ?_ | ((fail_if_success with_reducible refine stp ?_); simp -implicitDefEqProofs only [go_sem, Nat.reduceEqDiff, Nat.reduceAdd, Nat.reduceLT, Nat.reduceMul, Nat.reduceSub, Nat.reduceLeDiff, ↓reduceIte, reduceCtorEq, ↓String.reduceEq, String.reduceNe, Int.reduceToNat, Int.reduceLT, Int.reduceLE, Int.reduceGT, Int.reduceGE, Int.reduceEq, Int.reduceNe, Int.reduceBEq, Int.reduceBNe, Int.reduceAdd, Int.reduceSub, Int.reduceMul, Int.reduceNeg,  *]))
  rename_i p1 e1
  have HE := Hid.mk (And.intro e1 hpb)
  obtain ⟨M, hM, k1, k2, ks⟩ : ∃ M, M = hupd (hupd m p1 (.cells (encSc sA) 7)) pb (.cells (encSc sB) 7) ∧ M p1 = some (.cells (encSc sA) 7) ∧ M pb = some (.cells (encSc sB) 7) ∧ Sub m M :=
    ⟨_, rfl, by rw [hupd_ne hpy, hupd_at, if_pos rfl], by rw [hupd_at, if_pos rfl], ((Sub.refl _).fresh e1).fresh hpb⟩
  simp only [encSc] at hM
  rw [← hM]
  clear hM e1 hpb
  refine ppass_spec G HF.out.1 [] (by simp) 1 100 _ _ (rdS_nil _) _ (fun a ok m1 hp hs1 => ?_)
  obtain ⟨rfl, rfl⟩ := passR_one hp pNil
  have H1 := Hid.mk (And.intro (hs1 _ _ k1) (And.intro (hs1 _ _ k2) (subTrans ks hs1)))
  clear hp hs1 k1 k2 ks
  repeat' (first | exact tf0 ‹_› | exact tf1 ‹_› | exact False.elim ‹_› | (with_reducible refine Al.intro ?_; intro pb hpb; (try simp only [hupd_none'] at hpb); (repeat rcases hpb with ⟨⟨hpx, hpy⟩, hpb⟩)) | with_reducible refine need ?_ | ((with_reducible first | refine frk0 ?_ ?_ | refine frk1 ?_ ?_ | refine frk2 ?_ ?_ | refine frk3 ?_ ?_ | refine frk4 ?_ ?_ | refine frk5 ?_ ?_ | refine frk6 ?_ ?_ | refine frk7 ?_ ?_ | refine frk8 ?_ ?_ | refine frk9 ?_ ?_) <;> intro h <;> try (exfalso; omega)) | with_reducible refine quiet_and ?_ ?_ | with_reducible refine awp_drawnA mixed (by decide +kernel) ?_ | ((fail_if_success with_reducible refine stp ?_); simp -implicitDefEqProofs only [go_sem, Nat.reduceEqDiff, Nat.reduceAdd, Nat.reduceLT, Nat.reduceMul, Nat.reduceSub, Nat.reduceLeDiff, ↓reduceIte, reduceCtorEq, ↓String.reduceEq, String.reduceNe, Int.reduceToNat, Int.reduceLT, Int.reduceLE, Int.reduceGT, Int.reduceGE, Int.reduceEq, Int.reduceNe, Int.reduceBEq, Int.reduceBNe, Int.reduceAdd, Int.reduceSub, Int.reduceMul, Int.reduceNeg,  *]))
  refine ppass_spec G HF.out.1 [sA] (by simp) 1 5000 _ _ (rdS_one sA p1 m1 H1.out.1) _ (fun a ok m2 hp hs2 => ?_)
  obtain ⟨rfl, rfl⟩ := passR_one hp pA
  have H2 := Hid.mk (And.intro (hs2 _ _ H1.out.1) (And.intro (hs2 _ _ H1.out.2.1) (subTrans H1.out.2.2 hs2)))
  clear hp hs2
  repeat' (first | exact tf0 ‹_› | exact tf1 ‹_› | exact False.elim ‹_› | (with_reducible refine Al.intro ?_; intro pb hpb; (try simp only [hupd_none'] at hpb); (repeat rcases hpb with ⟨⟨hpx, hpy⟩, hpb⟩)) | with_reducible refine need ?_ | ((with_reducible first | refine frk0 ?_ ?_ | refine frk1 ?_ ?_ | refine frk2 ?_ ?_ | refine frk3 ?_ ?_ | refine frk4 ?_ ?_ | refine frk5 ?_ ?_ | refine frk6 ?_ ?_ | refine frk7 ?_ ?_ | refine frk8 ?_ ?_ | refine frk9 ?_ ?_) <;> intro h <;> try (exfalso; omega)) | with_reducible refine quiet_and ?_ ?_ | with_reducible refine awp_drawnA mixed (by decide +kernel) ?_ | ((fail_if_success with_reducible refine stp ?_); simp -implicitDefEqProofs only [go_sem, Nat.reduceEqDiff, Nat.reduceAdd, Nat.reduceLT, Nat.reduceMul, Nat.reduceSub, Nat.reduceLeDiff, ↓reduceIte, reduceCtorEq, ↓String.reduceEq, String.reduceNe, Int.reduceToNat, Int.reduceLT, Int.reduceLE, Int.reduceGT, Int.reduceGE, Int.reduceEq, Int.reduceNe, Int.reduceBEq, Int.reduceBNe, Int.reduceAdd, Int.reduceSub, Int.reduceMul, Int.reduceNeg,  *]))
  refine ppass_spec G HF.out.1 [sB] (by simp) 1 1000 _ _ (rdS_one sB pb m2 H2.out.2.1) _ (fun a ok m3 hp hs3 => ?_)
  obtain ⟨rfl, rfl⟩ := passR_one hp pB
  have H3 := Hid.mk (And.intro (rdS_one sA p1 m3 (hs3 _ _ H2.out.1)) (subTrans H2.out.2.2 hs3))
  clear hp hs3
  repeat' (first | exact tf0 ‹_› | exact tf1 ‹_› | exact False.elim ‹_› | (with_reducible refine Al.intro ?_; intro pb hpb; (try simp only [hupd_none'] at hpb); (repeat rcases hpb with ⟨⟨hpx, hpy⟩, hpb⟩)) | with_reducible refine need ?_ | ((with_reducible first | refine frk0 ?_ ?_ | refine frk1 ?_ ?_ | refine frk2 ?_ ?_ | refine frk3 ?_ ?_ | refine frk4 ?_ ?_ | refine frk5 ?_ ?_ | refine frk6 ?_ ?_ | refine frk7 ?_ ?_ | refine frk8 ?_ ?_ | refine frk9 ?_ ?_) <;> intro h <;> try (exfalso; omega)) | with_reducible refine quiet_and ?_ ?_ | with_reducible refine awp_drawnA mixed (by decide +kernel) ?_ | ((fail_if_success with_reducible refine stp ?_); simp -implicitDefEqProofs only [go_sem, Nat.reduceEqDiff, Nat.reduceAdd, Nat.reduceLT, Nat.reduceMul, Nat.reduceSub, Nat.reduceLeDiff, ↓reduceIte, reduceCtorEq, ↓String.reduceEq, String.reduceNe, Int.reduceToNat, Int.reduceLT, Int.reduceLE, Int.reduceGT, Int.reduceGE, Int.reduceEq, Int.reduceNe, Int.reduceBEq, Int.reduceBNe, Int.reduceAdd, Int.reduceSub, Int.reduceMul, Int.reduceNeg,  *]))
  refine CallWP.to (pblock_spec G HF.out.1 [sA] (by simp) _ _ H3.out.1) ?_
  rw [blk1 rA, cA]
  repeat' (first | exact tf0 ‹_› | exact tf1 ‹_› | exact False.elim ‹_› | (with_reducible refine Al.intro ?_; intro pb hpb; (try simp only [hupd_none'] at hpb); (repeat rcases hpb with ⟨⟨hpx, hpy⟩, hpb⟩)) | with_reducible refine need ?_ | ((with_reducible first | refine frk0 ?_ ?_ | refine frk1 ?_ ?_ | refine frk2 ?_ ?_ | refine frk3 ?_ ?_ | refine frk4 ?_ ?_ | refine frk5 ?_ ?_ | refine frk6 ?_ ?_ | refine frk7 ?_ ?_ | refine frk8 ?_ ?_ | refine frk9 ?_ ?_) <;> intro h <;> try (exfalso; omega)) | with_reducible refine quiet_and ?_ ?_ | with_reducible refine awp_drawnA mixed (by decide +kernel) ?_ | ((fail_if_success with_reducible refine stp ?_); simp -implicitDefEqProofs only [go_sem, Nat.reduceEqDiff, Nat.reduceAdd, Nat.reduceLT, Nat.reduceMul, Nat.reduceSub, Nat.reduceLeDiff, ↓reduceIte, reduceCtorEq, ↓String.reduceEq, String.reduceNe, Int.reduceToNat, Int.reduceLT, Int.reduceLE, Int.reduceGT, Int.reduceGE, Int.reduceEq, Int.reduceNe, Int.reduceBEq, Int.reduceBNe, Int.reduceAdd, Int.reduceSub, Int.reduceMul, Int.reduceNeg,  *]))
  refine CallWP.to (pOf_spec G HF.out.1 [sA] (by simp) 1000 1 _ _ H3.out.1) ?_
  rw [HF.out.2.1]
  repeat' (first | exact tf0 ‹_› | exact tf1 ‹_› | exact False.elim ‹_› | (with_reducible refine Al.intro ?_; intro pb hpb; (try simp only [hupd_none'] at hpb); (repeat rcases hpb with ⟨⟨hpx, hpy⟩, hpb⟩)) | with_reducible refine need ?_ | ((with_reducible first | refine frk0 ?_ ?_ | refine frk1 ?_ ?_ | refine frk2 ?_ ?_ | refine frk3 ?_ ?_ | refine frk4 ?_ ?_ | refine frk5 ?_ ?_ | refine frk6 ?_ ?_ | refine frk7 ?_ ?_ | refine frk8 ?_ ?_ | refine frk9 ?_ ?_) <;> intro h <;> try (exfalso; omega)) | with_reducible refine quiet_and ?_ ?_ | with_reducible refine awp_drawnA mixed (by decide +kernel) ?_ | ((fail_if_success with_reducible refine stp ?_); simp -implicitDefEqProofs only [go_sem, Nat.reduceEqDiff, Nat.reduceAdd, Nat.reduceLT, Nat.reduceMul, Nat.reduceSub, Nat.reduceLeDiff, ↓reduceIte, reduceCtorEq, ↓String.reduceEq, String.reduceNe, Int.reduceToNat, Int.reduceLT, Int.reduceLE, Int.reduceGT, Int.reduceGE, Int.reduceEq, Int.reduceNe, Int.reduceBEq, Int.reduceBNe, Int.reduceAdd, Int.reduceSub, Int.reduceMul, Int.reduceNeg,  *]))
  refine CallWP.to (pOf_spec G HF.out.1 [sA] (by simp) 999 1 _ _ H3.out.1) ?_
  rw [HF.out.2.2.1]
  repeat' (first | exact tf0 ‹_› | exact tf1 ‹_› | exact False.elim ‹_› | (with_reducible refine Al.intro ?_; intro pb hpb; (try simp only [hupd_none'] at hpb); (repeat rcases hpb with ⟨⟨hpx, hpy⟩, hpb⟩)) | with_reducible refine need ?_ | ((with_reducible first | refine frk0 ?_ ?_ | refine frk1 ?_ ?_ | refine frk2 ?_ ?_ | refine frk3 ?_ ?_ | refine frk4 ?_ ?_ | refine frk5 ?_ ?_ | refine frk6 ?_ ?_ | refine frk7 ?_ ?_ | refine frk8 ?_ ?_ | refine frk9 ?_ ?_) <;> intro h <;> try (exfalso; omega)) | with_reducible refine quiet_and ?_ ?_ | with_reducible refine awp_drawnA mixed (by decide +kernel) ?_ | ((fail_if_success with_reducible refine stp ?_); simp -implicitDefEqProofs only [go_sem, Nat.reduceEqDiff, Nat.reduceAdd, Nat.reduceLT, Nat.reduceMul, Nat.reduceSub, Nat.reduceLeDiff, ↓reduceIte, reduceCtorEq, ↓String.reduceEq, String.reduceNe, Int.reduceToNat, Int.reduceLT, Int.reduceLE, Int.reduceGT, Int.reduceGE, Int.reduceEq, Int.reduceNe, Int.reduceBEq, Int.reduceBNe, Int.reduceAdd, Int.reduceSub, Int.reduceMul, Int.reduceNeg,  *]))
  refine CallWP.to (pOf_spec G HF.out.1 [sA] (by simp) 3000 1 _ _ H3.out.1) ?_
  rw [HF.out.2.2.2.1]
  repeat' (first | exact tf0 ‹_› | exact tf1 ‹_› | exact False.elim ‹_› | (with_reducible refine Al.intro ?_; intro pb hpb; (try simp only [hupd_none'] at hpb); (repeat rcases hpb with ⟨⟨hpx, hpy⟩, hpb⟩)) | with_reducible refine need ?_ | ((with_reducible first | refine frk0 ?_ ?_ | refine frk1 ?_ ?_ | refine frk2 ?_ ?_ | refine frk3 ?_ ?_ | refine frk4 ?_ ?_ | refine frk5 ?_ ?_ | refine frk6 ?_ ?_ | refine frk7 ?_ ?_ | refine frk8 ?_ ?_ | refine frk9 ?_ ?_) <;> intro h <;> try (exfalso; omega)) | with_reducible refine quiet_and ?_ ?_ | with_reducible refine awp_drawnA mixed (by decide +kernel) ?_ | ((fail_if_success with_reducible refine stp ?_); simp -implicitDefEqProofs only [go_sem, Nat.reduceEqDiff, Nat.reduceAdd, Nat.reduceLT, Nat.reduceMul, Nat.reduceSub, Nat.reduceLeDiff, ↓reduceIte, reduceCtorEq, ↓String.reduceEq, String.reduceNe, Int.reduceToNat, Int.reduceLT, Int.reduceLE, Int.reduceGT, Int.reduceGE, Int.reduceEq, Int.reduceNe, Int.reduceBEq, Int.reduceBNe, Int.reduceAdd, Int.reduceSub, Int.reduceMul, Int.reduceNeg,  *]))
  refine CallWP.to (pload_spec G HF.out.1 [sA] (by simp) _ _ H3.out.1) ?_
  rw [HF.out.2.2.2.2]
  repeat' (first | exact tf0 ‹_› | exact tf1 ‹_› | exact False.elim ‹_› | (with_reducible refine Al.intro ?_; intro pb hpb; (try simp only [hupd_none'] at hpb); (repeat rcases hpb with ⟨⟨hpx, hpy⟩, hpb⟩)) | with_reducible refine need ?_ | ((with_reducible first | refine frk0 ?_ ?_ | refine frk1 ?_ ?_ | refine frk2 ?_ ?_ | refine frk3 ?_ ?_ | refine frk4 ?_ ?_ | refine frk5 ?_ ?_ | refine frk6 ?_ ?_ | refine frk7 ?_ ?_ | refine frk8 ?_ ?_ | refine frk9 ?_ ?_) <;> intro h <;> try (exfalso; omega)) | with_reducible refine quiet_and ?_ ?_ | with_reducible refine awp_drawnA mixed (by decide +kernel) ?_ | ((fail_if_success with_reducible refine stp ?_); simp -implicitDefEqProofs only [go_sem, Nat.reduceEqDiff, Nat.reduceAdd, Nat.reduceLT, Nat.reduceMul, Nat.reduceSub, Nat.reduceLeDiff, ↓reduceIte, reduceCtorEq, ↓String.reduceEq, String.reduceNe, Int.reduceToNat, Int.reduceLT, Int.reduceLE, Int.reduceGT, Int.reduceGE, Int.reduceEq, Int.reduceNe, Int.reduceBEq, Int.reduceBNe, Int.reduceAdd, Int.reduceSub, Int.reduceMul, Int.reduceNeg,  *]))
  exact ⟨m, H3.out.2, rfl, rfl⟩
end Go.Proofs.YtmifapnmlhchlaaDoor
