/- The document's rows, told; ratios. Who came off worst, the document's way. -/
import Derived.Test.YtdckcophbmnjjaaGreatDoorW23
set_option linter.all false
namespace Go.Proofs.YtdckcophbmnjjaaGreatDoor
open Go Go.Proofs.YtdckcophbmnjjaaGreatDoor.Ab
open Go.Proofs (Tryz.prog)
set_option maxRecDepth 100000
theorem pSt_neg {st : Int} (h : st < 0) : pSt st = pAll := by unfold pSt; rw [if_pos h]
theorem pSt_pos {st : Int} (h : 0 ≤ st) : pSt st = pId st := by unfold pSt; rw [if_neg (by omega)]
set_option maxHeartbeats 2000000 in
theorem rtTotal_spec (G : Nat → AVal) (R : Rtb) (C : List Stm) (L : List Ntd) (hL : L.length ≤ 100000) (hg : GoodL C L) (ha : GoodA L) (m : Heap) (hr : RRep R C L m) :
    CallWP Tryz.prog G 35 [.ptr R.p 0] m fun w m' => w = rowVal (-1) (rowOf pAll L) ∧ m' = m := by
  have HR := Hid.mk (fun m' (s : Sub m m') => rtrow_spec G R C L hL hg ha (-1) m' (hr.into s))
  rw [pSt_neg (by decide : (-1 : Int) < 0)] at HR
  generalize rowOf pAll L = r at *
  obtain ⟨tk, ⟨f0, f1, f2, f3, f4, f5⟩, wo, be, so⟩ := r
  clear hL hg ha hr
  refine callWP_body Tryz.func35 rfl (N := 8) rfl (rs := [.cell 2 56]) rfl en_35 (of_decide_eq_true rfl) ?_
  repeat' (first | exact tf0 ‹_› | exact tf1 ‹_› | exact False.elim ‹_› | (with_reducible refine Al.intro ?_; intro pb hpb; (try simp only [hupd_none'] at hpb); (repeat rcases hpb with ⟨⟨hpx, hpy⟩, hpb⟩)) | with_reducible refine need ?_ | ((with_reducible first | apply frk0 | apply frk1 | apply frk2 | apply frk3 | apply frk4 | apply frk5 | apply frk6 | apply frk7 | apply frk8 | apply frk9) <;> intro h <;> try (exfalso; omega)) | with_reducible refine quiet_and ?_ ?_ | with_reducible refine awp_drawnA mixed (by decide +kernel) ?_ | ((fail_if_success with_reducible refine stp ?_); simp -implicitDefEqProofs only [go_sem, Nat.reduceEqDiff, Nat.reduceAdd, Nat.reduceLT, Nat.reduceMul, Nat.reduceSub, Nat.reduceLeDiff, ↓reduceIte, reduceCtorEq, ↓String.reduceEq, String.reduceNe, Int.reduceToNat, Int.reduceLT, Int.reduceLE, Int.reduceGT, Int.reduceGE, Int.reduceEq, Int.reduceNe, Int.reduceBEq, Int.reduceBNe, Int.reduceAdd, Int.reduceSub, Int.reduceMul, Int.reduceNeg,  *]))
  refine CallWP.to (HR.out _ (by (repeat refine Sub.fresh ?_ (by assumption)); exact Sub.refl _)) ?_
  repeat' (first | exact tf0 ‹_› | exact tf1 ‹_› | exact False.elim ‹_› | (with_reducible refine Al.intro ?_; intro pb hpb; (try simp only [hupd_none'] at hpb); (repeat rcases hpb with ⟨⟨hpx, hpy⟩, hpb⟩)) | with_reducible refine need ?_ | ((with_reducible first | apply frk0 | apply frk1 | apply frk2 | apply frk3 | apply frk4 | apply frk5 | apply frk6 | apply frk7 | apply frk8 | apply frk9) <;> intro h <;> try (exfalso; omega)) | with_reducible refine quiet_and ?_ ?_ | with_reducible refine awp_drawnA mixed (by decide +kernel) ?_ | ((fail_if_success with_reducible refine stp ?_); simp -implicitDefEqProofs only [go_sem, Nat.reduceEqDiff, Nat.reduceAdd, Nat.reduceLT, Nat.reduceMul, Nat.reduceSub, Nat.reduceLeDiff, ↓reduceIte, reduceCtorEq, ↓String.reduceEq, String.reduceNe, Int.reduceToNat, Int.reduceLT, Int.reduceLE, Int.reduceGT, Int.reduceGE, Int.reduceEq, Int.reduceNe, Int.reduceBEq, Int.reduceBNe, Int.reduceAdd, Int.reduceSub, Int.reduceMul, Int.reduceNeg,  rowVal, *]))
  refine ⟨m, fun c y hc => ?_, rfl, rfl⟩
  rw [hupd_ne (seenB hc hpb)]; exact hc
set_option maxHeartbeats 2000000 in
theorem rtRow_spec (G : Nat → AVal) (R : Rtb) (C : List Stm) (L : List Ntd) (hC : C.length ≤ 1000) (hL : L.length ≤ 100000) (hg : GoodL C L) (ha : GoodA L) (id : Int) (h0i : 0 ≤ id) (hid : ∃ s ∈ C, s.1 = id) (m : Heap) (hr : RRep R C L m) :
    CallWP Tryz.prog G 33 [.ptr R.p 0, .int .i64 id] m fun w m' => w = .tuple [rowVal id (rowOf (pId id) L), .bool true] ∧ m' = m := by
  obtain ⟨p, vs, vl⟩ := R
  have HR := Hid.mk (fun m' (s : Sub m m') => rtrow_spec G ⟨p, vs, vl⟩ C L hL hg ha id m' (hr.into s))
  rw [pSt_pos h0i] at HR
  have ktb := hr.tab
  simp only at ktb
  have frt : ∀ c, m c = none → (p = c) = False := fun c h => by rw [eq_iff_iff, iff_false]; exact seenB ktb h
  have HF := Hid.mk (fun m' (s : Sub m m') => find_spec G C hC id vs m' (.inl (hr.str.into s)))
  rcases findF_cases C id with ⟨_, h⟩ | ⟨i, hf, hi, -⟩
  · obtain ⟨s, hs, he⟩ := hid
    exact absurd he (h s hs)
  rw [hf] at HF
  have hng : ¬ (i : Int) < 0 := by omega
  generalize rowOf (pId id) L = r at *
  obtain ⟨tk, ⟨f0, f1, f2, f3, f4, f5⟩, wo, be, so⟩ := r
  have hvs := hr.str.slv
  simp only at hvs
  clear hL hg ha hr hid hf hi hC
  rcases hvs with ⟨rfl, -⟩ | ⟨b, o, cap, rfl⟩
  all_goals (
    refine callWP_body Tryz.func33 rfl (N := 21) rfl (rs := [.cell 4 56, .tmp 5]) rfl en_33 (of_decide_eq_true rfl) ?_
    repeat' (first | exact tf0 ‹_› | exact tf1 ‹_› | exact False.elim ‹_› | (with_reducible refine Al.intro ?_; intro pb hpb; (try simp only [hupd_none'] at hpb); (repeat rcases hpb with ⟨⟨hpx, hpy⟩, hpb⟩)) | with_reducible refine need ?_ | ((with_reducible first | apply frk0 | apply frk1 | apply frk2 | apply frk3 | apply frk4 | apply frk5 | apply frk6 | apply frk7 | apply frk8 | apply frk9) <;> intro h <;> try (exfalso; omega)) | with_reducible refine quiet_and ?_ ?_ | with_reducible refine awp_drawnA mixed (by decide +kernel) ?_ | ((fail_if_success with_reducible refine stp ?_); simp -implicitDefEqProofs only [go_sem, Nat.reduceEqDiff, Nat.reduceAdd, Nat.reduceLT, Nat.reduceMul, Nat.reduceSub, Nat.reduceLeDiff, ↓reduceIte, reduceCtorEq, ↓String.reduceEq, String.reduceNe, Int.reduceToNat, Int.reduceLT, Int.reduceLE, Int.reduceGT, Int.reduceGE, Int.reduceEq, Int.reduceNe, Int.reduceBEq, Int.reduceBNe, Int.reduceAdd, Int.reduceSub, Int.reduceMul, Int.reduceNeg,  *]))
    refine CallWP.to (HF.out _ (by (repeat refine Sub.fresh ?_ (by assumption)); exact Sub.refl _)) ?_
    repeat' (first | exact tf0 ‹_› | exact tf1 ‹_› | exact False.elim ‹_› | (with_reducible refine Al.intro ?_; intro pb hpb; (try simp only [hupd_none'] at hpb); (repeat rcases hpb with ⟨⟨hpx, hpy⟩, hpb⟩)) | with_reducible refine need ?_ | ((with_reducible first | apply frk0 | apply frk1 | apply frk2 | apply frk3 | apply frk4 | apply frk5 | apply frk6 | apply frk7 | apply frk8 | apply frk9) <;> intro h <;> try (exfalso; omega)) | with_reducible refine quiet_and ?_ ?_ | with_reducible refine awp_drawnA mixed (by decide +kernel) ?_ | ((fail_if_success with_reducible refine stp ?_); simp -implicitDefEqProofs only [go_sem, Nat.reduceEqDiff, Nat.reduceAdd, Nat.reduceLT, Nat.reduceMul, Nat.reduceSub, Nat.reduceLeDiff, ↓reduceIte, reduceCtorEq, ↓String.reduceEq, String.reduceNe, Int.reduceToNat, Int.reduceLT, Int.reduceLE, Int.reduceGT, Int.reduceGE, Int.reduceEq, Int.reduceNe, Int.reduceBEq, Int.reduceBNe, Int.reduceAdd, Int.reduceSub, Int.reduceMul, Int.reduceNeg,  *]))
    refine CallWP.to (HR.out _ (by (repeat refine Sub.fresh ?_ (by assumption)); exact Sub.refl _)) ?_
    repeat' (first | exact tf0 ‹_› | exact tf1 ‹_› | exact False.elim ‹_› | (with_reducible refine Al.intro ?_; intro pb hpb; (try simp only [hupd_none'] at hpb); (repeat rcases hpb with ⟨⟨hpx, hpy⟩, hpb⟩)) | with_reducible refine need ?_ | ((with_reducible first | apply frk0 | apply frk1 | apply frk2 | apply frk3 | apply frk4 | apply frk5 | apply frk6 | apply frk7 | apply frk8 | apply frk9) <;> intro h <;> try (exfalso; omega)) | with_reducible refine quiet_and ?_ ?_ | with_reducible refine awp_drawnA mixed (by decide +kernel) ?_ | ((fail_if_success with_reducible refine stp ?_); simp -implicitDefEqProofs only [go_sem, Nat.reduceEqDiff, Nat.reduceAdd, Nat.reduceLT, Nat.reduceMul, Nat.reduceSub, Nat.reduceLeDiff, ↓reduceIte, reduceCtorEq, ↓String.reduceEq, String.reduceNe, Int.reduceToNat, Int.reduceLT, Int.reduceLE, Int.reduceGT, Int.reduceGE, Int.reduceEq, Int.reduceNe, Int.reduceBEq, Int.reduceBNe, Int.reduceAdd, Int.reduceSub, Int.reduceMul, Int.reduceNeg,  rowVal, *]))
    refine ⟨m, fun c y hc => ?_, rfl, rfl⟩
    rw [hupd_ne (seenB hc hpb)]; exact hc)
set_option maxHeartbeats 2000000 in
theorem rtRow_none (G : Nat → AVal) (R : Rtb) (C : List Stm) (L : List Ntd) (hC : C.length ≤ 1000) (id : Int) (hid : ∀ s ∈ C, s.1 ≠ id) (m : Heap) (hr : RRep R C L m) :
    CallWP Tryz.prog G 33 [.ptr R.p 0, .int .i64 id] m fun w m' => w = .tuple [rowVal 0 zeroR, .bool false] ∧ m' = m := by
  obtain ⟨p, vs, vl⟩ := R
  have ktb := hr.tab
  simp only at ktb
  have frt : ∀ c, m c = none → (p = c) = False := fun c h => by rw [eq_iff_iff, iff_false]; exact seenB ktb h
  have HF := Hid.mk (fun m' (s : Sub m m') => find_spec G C hC id vs m' (.inl (hr.str.into s)))
  rw [findF_none hid] at HF
  have hvs := hr.str.slv
  simp only at hvs
  clear hr hid hC
  rcases hvs with ⟨rfl, -⟩ | ⟨b, o, cap, rfl⟩
  all_goals (
    refine callWP_body Tryz.func33 rfl (N := 21) rfl (rs := [.cell 4 56, .tmp 5]) rfl en_33 (of_decide_eq_true rfl) ?_
    repeat' (first | exact tf0 ‹_› | exact tf1 ‹_› | exact False.elim ‹_› | (with_reducible refine Al.intro ?_; intro pb hpb; (try simp only [hupd_none'] at hpb); (repeat rcases hpb with ⟨⟨hpx, hpy⟩, hpb⟩)) | with_reducible refine need ?_ | ((with_reducible first | apply frk0 | apply frk1 | apply frk2 | apply frk3 | apply frk4 | apply frk5 | apply frk6 | apply frk7 | apply frk8 | apply frk9) <;> intro h <;> try (exfalso; omega)) | with_reducible refine quiet_and ?_ ?_ | with_reducible refine awp_drawnA mixed (by decide +kernel) ?_ | ((fail_if_success with_reducible refine stp ?_); simp -implicitDefEqProofs only [go_sem, Nat.reduceEqDiff, Nat.reduceAdd, Nat.reduceLT, Nat.reduceMul, Nat.reduceSub, Nat.reduceLeDiff, ↓reduceIte, reduceCtorEq, ↓String.reduceEq, String.reduceNe, Int.reduceToNat, Int.reduceLT, Int.reduceLE, Int.reduceGT, Int.reduceGE, Int.reduceEq, Int.reduceNe, Int.reduceBEq, Int.reduceBNe, Int.reduceAdd, Int.reduceSub, Int.reduceMul, Int.reduceNeg,  *]))
    refine CallWP.to (HF.out _ (by (repeat refine Sub.fresh ?_ (by assumption)); exact Sub.refl _)) ?_
    repeat' (first | exact tf0 ‹_› | exact tf1 ‹_› | exact False.elim ‹_› | (with_reducible refine Al.intro ?_; intro pb hpb; (try simp only [hupd_none'] at hpb); (repeat rcases hpb with ⟨⟨hpx, hpy⟩, hpb⟩)) | with_reducible refine need ?_ | ((with_reducible first | apply frk0 | apply frk1 | apply frk2 | apply frk3 | apply frk4 | apply frk5 | apply frk6 | apply frk7 | apply frk8 | apply frk9) <;> intro h <;> try (exfalso; omega)) | with_reducible refine quiet_and ?_ ?_ | with_reducible refine awp_drawnA mixed (by decide +kernel) ?_ | ((fail_if_success with_reducible refine stp ?_); simp -implicitDefEqProofs only [go_sem, Nat.reduceEqDiff, Nat.reduceAdd, Nat.reduceLT, Nat.reduceMul, Nat.reduceSub, Nat.reduceLeDiff, ↓reduceIte, reduceCtorEq, ↓String.reduceEq, String.reduceNe, Int.reduceToNat, Int.reduceLT, Int.reduceLE, Int.reduceGT, Int.reduceGE, Int.reduceEq, Int.reduceNe, Int.reduceBEq, Int.reduceBNe, Int.reduceAdd, Int.reduceSub, Int.reduceMul, Int.reduceNeg,  rowVal, zeroR, *]))
    refine ⟨m, fun c y hc => ?_, rfl, rfl⟩
    (try rw [hupd_ne (seenB hc hpb)]); exact hc)
set_option maxHeartbeats 4000000 in
theorem rtratio_spec (G : Nat → AVal) (R : Rtb) (C : List Stm) (L : List Ntd) (hC : C.length ≤ 1000) (hL : L.length ≤ 100000) (hg : GoodL C L) (ha : GoodA L) (id f : Int) (h0i : 0 ≤ id) (m : Heap) (hr : RRep R C L m) :
    CallWP Tryz.prog G 38 [.ptr R.p 0, .int .i64 id, .int .i64 f] m fun w m' => w = .int .i64 (ratioF id C L f) ∧ m' = m := by
  by_cases hid : ∃ s ∈ C, s.1 = id
  · have HR := Hid.mk (rtRow_spec G R C L hC hL hg ha id h0i hid m hr)
    have hsm := row_small (pId id) L (by omega)
    have h0 : (rowOf (pId id) L).2.1.1 ≤ (rowOf (pId id) L).1 := by
      show cntP (fateP (pId id) 0) L ≤ cntP (pId id) L
      clear hL hsm hr HR hg ha hC
      unfold cntP
      induction L with
      | nil => exact Int.le_refl _
      | cons a t ih =>
        rw [List.map_cons, List.map_cons, List.sum_cons, List.sum_cons]
        have : (if fateP (pId id) 0 a = true then (1 : Int) else 0) ≤ if pId id a = true then 1 else 0 := by
          unfold fateP
          by_cases h : pId id a = true
          · rw [if_pos h]; split <;> omega
          · rw [if_neg h, if_neg (by simp [h])]; exact Int.le_refl _
        omega
    have HX : ∀ k, Hid (ratioF id C L k = if (rowOf (pId id) L).1 - (rowOf (pId id) L).2.1.1 = 0 ∨ k < 1 ∨ k > 5 then 0 else (1000 * cntP (fateP (pId id) k) L).tdiv ((rowOf (pId id) L).1 - (rowOf (pId id) L).2.1.1)) := fun k => .mk (by
      unfold ratioF
      by_cases h : (rowOf (pId id) L).1 - (rowOf (pId id) L).2.1.1 = 0 ∨ k < 1 ∨ k > 5
      · rw [if_pos (.inr h), if_pos h]
      · rw [if_neg (fun g => g.elim (fun g => g hid) h), if_neg h])
    have e1 : cntP (fateP (pId id) 1) L = (rowOf (pId id) L).2.1.2.1 := rfl
    have e2 : cntP (fateP (pId id) 2) L = (rowOf (pId id) L).2.1.2.2.1 := rfl
    have e3 : cntP (fateP (pId id) 3) L = (rowOf (pId id) L).2.1.2.2.2.1 := rfl
    have e4 : cntP (fateP (pId id) 4) L = (rowOf (pId id) L).2.1.2.2.2.2.1 := rfl
    have e5 : cntP (fateP (pId id) 5) L = (rowOf (pId id) L).2.1.2.2.2.2.2 := rfl
    generalize rowOf (pId id) L = r1 at *
    obtain ⟨uk, ⟨g0, g1, g2, g3, g4, g5⟩, uo, ue, us⟩ := r1
    obtain ⟨b1, b2, b3, b4, b5, b6, b7⟩ := hsm
    simp only at b1 b2 b3 b4 b5 b6 b7 h0 e1 e2 e3 e4 e5 HX
    have w1 : IntKind.i64.wrap (uk - g0) = uk - g0 := wrap_i64 (by omega) (by omega)
    have HE := Hid.mk (And.intro e1 (And.intro e2 (And.intro e3 (And.intro e4 e5))))
    have HB := Hid.mk (And.intro b1 (And.intro b2 (And.intro b3 (And.intro b4 (And.intro b5 (And.intro b6 b7))))))
    have H0 := Hid.mk h0
    clear hr hg ha h0i hC e1 e2 e3 e4 e5 b1 b2 b3 b4 b5 b6 b7 hL hid h0
    by_cases hz : uk - g0 = 0
    · have hz1 : (uk - g0 == 0) = true := by simpa using hz
      have HV := Hid.mk ((HX f).out.trans (if_pos (.inl hz)))
      clear hz HX
      refine callWP_body Tryz.func38 rfl (N := 43) rfl (rs := [.tmp 6]) rfl en_38 (of_decide_eq_true rfl) ?_
      repeat' (first | exact tf0 ‹_› | exact tf1 ‹_› | exact False.elim ‹_› | (with_reducible refine Al.intro ?_; intro pb hpb; (try simp only [hupd_none'] at hpb); (repeat rcases hpb with ⟨⟨hpx, hpy⟩, hpb⟩)) | with_reducible refine need ?_ | ((with_reducible first | apply frk0 | apply frk1 | apply frk2 | apply frk3 | apply frk4 | apply frk5 | apply frk6 | apply frk7 | apply frk8 | apply frk9) <;> intro h <;> try (exfalso; omega)) | with_reducible refine quiet_and ?_ ?_ | with_reducible refine awp_drawnA mixed (by decide +kernel) ?_ | ((fail_if_success with_reducible refine stp ?_); simp -implicitDefEqProofs only [go_sem, Nat.reduceEqDiff, Nat.reduceAdd, Nat.reduceLT, Nat.reduceMul, Nat.reduceSub, Nat.reduceLeDiff, ↓reduceIte, reduceCtorEq, ↓String.reduceEq, String.reduceNe, Int.reduceToNat, Int.reduceLT, Int.reduceLE, Int.reduceGT, Int.reduceGE, Int.reduceEq, Int.reduceNe, Int.reduceBEq, Int.reduceBNe, Int.reduceAdd, Int.reduceSub, Int.reduceMul, Int.reduceNeg,  *]))
      refine CallWP.to HR.out ?_
      repeat' (first | exact tf0 ‹_› | exact tf1 ‹_› | exact False.elim ‹_› | (with_reducible refine Al.intro ?_; intro pb hpb; (try simp only [hupd_none'] at hpb); (repeat rcases hpb with ⟨⟨hpx, hpy⟩, hpb⟩)) | with_reducible refine need ?_ | ((with_reducible first | apply frk0 | apply frk1 | apply frk2 | apply frk3 | apply frk4 | apply frk5 | apply frk6 | apply frk7 | apply frk8 | apply frk9) <;> intro h <;> try (exfalso; omega)) | with_reducible refine quiet_and ?_ ?_ | with_reducible refine awp_drawnA mixed (by decide +kernel) ?_ | ((fail_if_success with_reducible refine stp ?_); simp -implicitDefEqProofs only [go_sem, Nat.reduceEqDiff, Nat.reduceAdd, Nat.reduceLT, Nat.reduceMul, Nat.reduceSub, Nat.reduceLeDiff, ↓reduceIte, reduceCtorEq, ↓String.reduceEq, String.reduceNe, Int.reduceToNat, Int.reduceLT, Int.reduceLE, Int.reduceGT, Int.reduceGE, Int.reduceEq, Int.reduceNe, Int.reduceBEq, Int.reduceBNe, Int.reduceAdd, Int.reduceSub, Int.reduceMul, Int.reduceNeg,  rowVal, *]))
      exact ⟨m, (by (repeat refine Sub.fresh ?_ (by assumption)); exact Sub.refl _), by rw [HV.out], rfl⟩
    · have hz1 : (uk - g0 == 0) = false := by simpa using hz
      by_cases hf1 : f < 1
      · have HV := Hid.mk ((HX f).out.trans (if_pos (.inr (.inl hf1))))
        clear hz HX
        refine callWP_body Tryz.func38 rfl (N := 43) rfl (rs := [.tmp 6]) rfl en_38 (of_decide_eq_true rfl) ?_
        repeat' (first | exact tf0 ‹_› | exact tf1 ‹_› | exact False.elim ‹_› | (with_reducible refine Al.intro ?_; intro pb hpb; (try simp only [hupd_none'] at hpb); (repeat rcases hpb with ⟨⟨hpx, hpy⟩, hpb⟩)) | with_reducible refine need ?_ | ((with_reducible first | apply frk0 | apply frk1 | apply frk2 | apply frk3 | apply frk4 | apply frk5 | apply frk6 | apply frk7 | apply frk8 | apply frk9) <;> intro h <;> try (exfalso; omega)) | with_reducible refine quiet_and ?_ ?_ | with_reducible refine awp_drawnA mixed (by decide +kernel) ?_ | ((fail_if_success with_reducible refine stp ?_); simp -implicitDefEqProofs only [go_sem, Nat.reduceEqDiff, Nat.reduceAdd, Nat.reduceLT, Nat.reduceMul, Nat.reduceSub, Nat.reduceLeDiff, ↓reduceIte, reduceCtorEq, ↓String.reduceEq, String.reduceNe, Int.reduceToNat, Int.reduceLT, Int.reduceLE, Int.reduceGT, Int.reduceGE, Int.reduceEq, Int.reduceNe, Int.reduceBEq, Int.reduceBNe, Int.reduceAdd, Int.reduceSub, Int.reduceMul, Int.reduceNeg,  *]))
        refine CallWP.to HR.out ?_
        repeat' (first | exact tf0 ‹_› | exact tf1 ‹_› | exact False.elim ‹_› | (with_reducible refine Al.intro ?_; intro pb hpb; (try simp only [hupd_none'] at hpb); (repeat rcases hpb with ⟨⟨hpx, hpy⟩, hpb⟩)) | with_reducible refine need ?_ | ((with_reducible first | apply frk0 | apply frk1 | apply frk2 | apply frk3 | apply frk4 | apply frk5 | apply frk6 | apply frk7 | apply frk8 | apply frk9) <;> intro h <;> try (exfalso; omega)) | with_reducible refine quiet_and ?_ ?_ | with_reducible refine awp_drawnA mixed (by decide +kernel) ?_ | ((fail_if_success with_reducible refine stp ?_); simp -implicitDefEqProofs only [go_sem, Nat.reduceEqDiff, Nat.reduceAdd, Nat.reduceLT, Nat.reduceMul, Nat.reduceSub, Nat.reduceLeDiff, ↓reduceIte, reduceCtorEq, ↓String.reduceEq, String.reduceNe, Int.reduceToNat, Int.reduceLT, Int.reduceLE, Int.reduceGT, Int.reduceGE, Int.reduceEq, Int.reduceNe, Int.reduceBEq, Int.reduceBNe, Int.reduceAdd, Int.reduceSub, Int.reduceMul, Int.reduceNeg,  rowVal, *]))
        exact ⟨m, (by (repeat refine Sub.fresh ?_ (by assumption)); exact Sub.refl _), by rw [HV.out], rfl⟩
      · by_cases hf5 : f > 5
        · have HV := Hid.mk ((HX f).out.trans (if_pos (.inr (.inr hf5))))
          clear hz HX
          refine callWP_body Tryz.func38 rfl (N := 43) rfl (rs := [.tmp 6]) rfl en_38 (of_decide_eq_true rfl) ?_
          repeat' (first | exact tf0 ‹_› | exact tf1 ‹_› | exact False.elim ‹_› | (with_reducible refine Al.intro ?_; intro pb hpb; (try simp only [hupd_none'] at hpb); (repeat rcases hpb with ⟨⟨hpx, hpy⟩, hpb⟩)) | with_reducible refine need ?_ | ((with_reducible first | apply frk0 | apply frk1 | apply frk2 | apply frk3 | apply frk4 | apply frk5 | apply frk6 | apply frk7 | apply frk8 | apply frk9) <;> intro h <;> try (exfalso; omega)) | with_reducible refine quiet_and ?_ ?_ | with_reducible refine awp_drawnA mixed (by decide +kernel) ?_ | ((fail_if_success with_reducible refine stp ?_); simp -implicitDefEqProofs only [go_sem, Nat.reduceEqDiff, Nat.reduceAdd, Nat.reduceLT, Nat.reduceMul, Nat.reduceSub, Nat.reduceLeDiff, ↓reduceIte, reduceCtorEq, ↓String.reduceEq, String.reduceNe, Int.reduceToNat, Int.reduceLT, Int.reduceLE, Int.reduceGT, Int.reduceGE, Int.reduceEq, Int.reduceNe, Int.reduceBEq, Int.reduceBNe, Int.reduceAdd, Int.reduceSub, Int.reduceMul, Int.reduceNeg,  *]))
          refine CallWP.to HR.out ?_
          repeat' (first | exact tf0 ‹_› | exact tf1 ‹_› | exact False.elim ‹_› | (with_reducible refine Al.intro ?_; intro pb hpb; (try simp only [hupd_none'] at hpb); (repeat rcases hpb with ⟨⟨hpx, hpy⟩, hpb⟩)) | with_reducible refine need ?_ | ((with_reducible first | apply frk0 | apply frk1 | apply frk2 | apply frk3 | apply frk4 | apply frk5 | apply frk6 | apply frk7 | apply frk8 | apply frk9) <;> intro h <;> try (exfalso; omega)) | with_reducible refine quiet_and ?_ ?_ | with_reducible refine awp_drawnA mixed (by decide +kernel) ?_ | ((fail_if_success with_reducible refine stp ?_); simp -implicitDefEqProofs only [go_sem, Nat.reduceEqDiff, Nat.reduceAdd, Nat.reduceLT, Nat.reduceMul, Nat.reduceSub, Nat.reduceLeDiff, ↓reduceIte, reduceCtorEq, ↓String.reduceEq, String.reduceNe, Int.reduceToNat, Int.reduceLT, Int.reduceLE, Int.reduceGT, Int.reduceGE, Int.reduceEq, Int.reduceNe, Int.reduceBEq, Int.reduceBNe, Int.reduceAdd, Int.reduceSub, Int.reduceMul, Int.reduceNeg,  rowVal, *]))
          exact ⟨m, (by (repeat refine Sub.fresh ?_ (by assumption)); exact Sub.refl _), by rw [HV.out], rfl⟩
        · have HV := Hid.mk ((HX f).out.trans (if_neg (fun h => h.elim hz (fun h => h.elim hf1 hf5))))
          have he : 1 ≤ uk - g0 := by have := H0.out; omega
          have d1 := ratio_div g1 (uk - g0) HB.out.2.2.1.1 HB.out.2.2.1.2 he
          have d2 := ratio_div g2 (uk - g0) HB.out.2.2.2.1.1 HB.out.2.2.2.1.2 he
          have d3 := ratio_div g3 (uk - g0) HB.out.2.2.2.2.1.1 HB.out.2.2.2.2.1.2 he
          have d4 := ratio_div g4 (uk - g0) HB.out.2.2.2.2.2.1.1 HB.out.2.2.2.2.2.1.2 he
          have d5 := ratio_div g5 (uk - g0) HB.out.2.2.2.2.2.2.1 HB.out.2.2.2.2.2.2.2 he
          have v1 : IntKind.i64.wrap (g1 * 1000) = 1000 * g1 := by have := HB.out; rw [Int.mul_comm]; exact wrap_i64 (by omega) (by omega)
          have v2 : IntKind.i64.wrap (g2 * 1000) = 1000 * g2 := by have := HB.out; rw [Int.mul_comm]; exact wrap_i64 (by omega) (by omega)
          have v3 : IntKind.i64.wrap (g3 * 1000) = 1000 * g3 := by have := HB.out; rw [Int.mul_comm]; exact wrap_i64 (by omega) (by omega)
          have v4 : IntKind.i64.wrap (g4 * 1000) = 1000 * g4 := by have := HB.out; rw [Int.mul_comm]; exact wrap_i64 (by omega) (by omega)
          have v5 : IntKind.i64.wrap (g5 * 1000) = 1000 * g5 := by have := HB.out; rw [Int.mul_comm]; exact wrap_i64 (by omega) (by omega)
          have nz : uk - g0 ≠ 0 := hz
          have hf : f = 1 ∨ f = 2 ∨ f = 3 ∨ f = 4 ∨ f = 5 := by omega
          clear hz HX he hf1 hf5
          rcases hf with rfl | rfl | rfl | rfl | rfl
          all_goals (
            refine callWP_body Tryz.func38 rfl (N := 43) rfl (rs := [.tmp 6]) rfl en_38 (of_decide_eq_true rfl) ?_
            repeat' (first | exact tf0 ‹_› | exact tf1 ‹_› | exact False.elim ‹_› | (with_reducible refine Al.intro ?_; intro pb hpb; (try simp only [hupd_none'] at hpb); (repeat rcases hpb with ⟨⟨hpx, hpy⟩, hpb⟩)) | with_reducible refine need ?_ | ((with_reducible first | apply frk0 | apply frk1 | apply frk2 | apply frk3 | apply frk4 | apply frk5 | apply frk6 | apply frk7 | apply frk8 | apply frk9) <;> intro h <;> try (exfalso; omega)) | with_reducible refine quiet_and ?_ ?_ | with_reducible refine awp_drawnA mixed (by decide +kernel) ?_ | ((fail_if_success with_reducible refine stp ?_); simp -implicitDefEqProofs only [go_sem, Nat.reduceEqDiff, Nat.reduceAdd, Nat.reduceLT, Nat.reduceMul, Nat.reduceSub, Nat.reduceLeDiff, ↓reduceIte, reduceCtorEq, ↓String.reduceEq, String.reduceNe, Int.reduceToNat, Int.reduceLT, Int.reduceLE, Int.reduceGT, Int.reduceGE, Int.reduceEq, Int.reduceNe, Int.reduceBEq, Int.reduceBNe, Int.reduceAdd, Int.reduceSub, Int.reduceMul, Int.reduceNeg,  *]))
            refine CallWP.to HR.out ?_
            repeat' (first | exact tf0 ‹_› | exact tf1 ‹_› | exact False.elim ‹_› | (with_reducible refine Al.intro ?_; intro pb hpb; (try simp only [hupd_none'] at hpb); (repeat rcases hpb with ⟨⟨hpx, hpy⟩, hpb⟩)) | with_reducible refine need ?_ | ((with_reducible first | apply frk0 | apply frk1 | apply frk2 | apply frk3 | apply frk4 | apply frk5 | apply frk6 | apply frk7 | apply frk8 | apply frk9) <;> intro h <;> try (exfalso; omega)) | with_reducible refine quiet_and ?_ ?_ | with_reducible refine awp_drawnA mixed (by decide +kernel) ?_ | ((fail_if_success with_reducible refine stp ?_); simp -implicitDefEqProofs only [go_sem, Nat.reduceEqDiff, Nat.reduceAdd, Nat.reduceLT, Nat.reduceMul, Nat.reduceSub, Nat.reduceLeDiff, ↓reduceIte, reduceCtorEq, ↓String.reduceEq, String.reduceNe, Int.reduceToNat, Int.reduceLT, Int.reduceLE, Int.reduceGT, Int.reduceGE, Int.reduceEq, Int.reduceNe, Int.reduceBEq, Int.reduceBNe, Int.reduceAdd, Int.reduceSub, Int.reduceMul, Int.reduceNeg,  rowVal, *]))
            refine ⟨m, (by (repeat refine Sub.fresh ?_ (by assumption)); exact Sub.refl _), ?_, rfl⟩
            rw [HV.out]
            first | rw [HE.out.1] | rw [HE.out.2.1] | rw [HE.out.2.2.1] | rw [HE.out.2.2.2.1] | rw [HE.out.2.2.2.2])
  · have HR := Hid.mk (rtRow_none G R C L hC id (fun s hs e => hid ⟨s, hs, e⟩) m hr)
    have HV := Hid.mk (show ratioF id C L f = 0 by unfold ratioF; rw [if_pos (.inl hid)])
    clear hid hr hL hg ha h0i hC
    refine callWP_body Tryz.func38 rfl (N := 43) rfl (rs := [.tmp 6]) rfl en_38 (of_decide_eq_true rfl) ?_
    repeat' (first | exact tf0 ‹_› | exact tf1 ‹_› | exact False.elim ‹_› | (with_reducible refine Al.intro ?_; intro pb hpb; (try simp only [hupd_none'] at hpb); (repeat rcases hpb with ⟨⟨hpx, hpy⟩, hpb⟩)) | with_reducible refine need ?_ | ((with_reducible first | apply frk0 | apply frk1 | apply frk2 | apply frk3 | apply frk4 | apply frk5 | apply frk6 | apply frk7 | apply frk8 | apply frk9) <;> intro h <;> try (exfalso; omega)) | with_reducible refine quiet_and ?_ ?_ | with_reducible refine awp_drawnA mixed (by decide +kernel) ?_ | ((fail_if_success with_reducible refine stp ?_); simp -implicitDefEqProofs only [go_sem, Nat.reduceEqDiff, Nat.reduceAdd, Nat.reduceLT, Nat.reduceMul, Nat.reduceSub, Nat.reduceLeDiff, ↓reduceIte, reduceCtorEq, ↓String.reduceEq, String.reduceNe, Int.reduceToNat, Int.reduceLT, Int.reduceLE, Int.reduceGT, Int.reduceGE, Int.reduceEq, Int.reduceNe, Int.reduceBEq, Int.reduceBNe, Int.reduceAdd, Int.reduceSub, Int.reduceMul, Int.reduceNeg,  *]))
    refine CallWP.to HR.out ?_
    repeat' (first | exact tf0 ‹_› | exact tf1 ‹_› | exact False.elim ‹_› | (with_reducible refine Al.intro ?_; intro pb hpb; (try simp only [hupd_none'] at hpb); (repeat rcases hpb with ⟨⟨hpx, hpy⟩, hpb⟩)) | with_reducible refine need ?_ | ((with_reducible first | apply frk0 | apply frk1 | apply frk2 | apply frk3 | apply frk4 | apply frk5 | apply frk6 | apply frk7 | apply frk8 | apply frk9) <;> intro h <;> try (exfalso; omega)) | with_reducible refine quiet_and ?_ ?_ | with_reducible refine awp_drawnA mixed (by decide +kernel) ?_ | ((fail_if_success with_reducible refine stp ?_); simp -implicitDefEqProofs only [go_sem, Nat.reduceEqDiff, Nat.reduceAdd, Nat.reduceLT, Nat.reduceMul, Nat.reduceSub, Nat.reduceLeDiff, ↓reduceIte, reduceCtorEq, ↓String.reduceEq, String.reduceNe, Int.reduceToNat, Int.reduceLT, Int.reduceLE, Int.reduceGT, Int.reduceGE, Int.reduceEq, Int.reduceNe, Int.reduceBEq, Int.reduceBNe, Int.reduceAdd, Int.reduceSub, Int.reduceMul, Int.reduceNeg,  rowVal, zeroR, *]))
    exact ⟨m, (by (repeat refine Sub.fresh ?_ (by assumption)); exact Sub.refl _), by rw [HV.out], rfl⟩
end Go.Proofs.YtdckcophbmnjjaaGreatDoor
namespace Go.Proofs.YtdckcophbmnjjaaGreatDoor
open Go Go.Proofs.YtdckcophbmnjjaaGreatDoor.Ab
open Go.Proofs (Tryz.prog)
set_option maxRecDepth 100000
/-- One more stream looked at. -/
def stepW (a : Int × Int) (id n : Int) : Int × Int := if n > a.2 ∨ (n = a.2 ∧ n > 0 ∧ id < a.1) then (id, n) else a
def rW (L : List Ntd) (C : List Stm) : Nat → Int × Int
  | 0 => (0, 0)
  | i + 1 => stepW (rW L C i) (C.getD i default).1 (missF L (C.getD i default).1)
theorem miss_pos (L : List Ntd) (id : Int) : 0 ≤ missF L id := by
  unfold missF rowOf; exact (cnt_in _ L).1
theorem cmpW_lt (L : List Ntd) (s w : Stm) : cmpW L s w < 0 ↔ missF L s.1 > missF L w.1 ∨ (missF L s.1 = missF L w.1 ∧ s.1 < w.1) := by
  unfold cmpW cmpI
  (repeat' split) <;> omega
theorem rW_inv (L : List Ntd) (C : List Stm) : ∀ i, 1 ≤ i → i ≤ C.length → rW L C i = if missF L (minWn L C i).1 = 0 then (0, 0) else ((minWn L C i).1, missF L (minWn L C i).1)
  | 0, h, _ => by omega
  | 1, _, h => by
    have e : minWn L C 1 = C.getD 0 default := by unfold minWn; rw [take_one C 0 h]; simp
    have hp := miss_pos L (C.getD 0 default).1
    rw [e]
    show stepW (0, 0) _ _ = _
    unfold stepW
    simp only
    split <;> split <;> first | rfl | (exfalso; omega)
  | i + 2, _, h => by
    have ih := rW_inv L C (i + 1) (by omega) (by omega)
    have hp := miss_pos L (C.getD (i + 1) default).1
    have hp2 := miss_pos L (minWn L C (i + 1)).1
    rw [minWn_step L C (i + 1) (by omega) (by omega)]
    show stepW (rW L C (i + 1)) _ _ = _
    rw [ih]
    have hc := cmpW_lt L (C.getD (i + 1) default) (minWn L C (i + 1))
    generalize C.getD (i + 1) default = s at *
    generalize minWn L C (i + 1) = w at *
    by_cases h0 : missF L w.1 = 0
    · rw [if_pos h0]
      unfold stepW
      simp only
      by_cases h1 : missF L s.1 > 0
      · rw [if_pos (.inl h1), if_pos (hc.2 (.inl (by omega))), if_neg (by omega)]
      · rw [if_neg (by omega)]
        have : missF L s.1 = 0 := by omega
        split
        · rfl
        · rfl
    · rw [if_neg h0]
      unfold stepW
      simp only
      by_cases h1 : cmpW L s w < 0
      · have := hc.1 h1
        rw [if_pos h1, if_pos (by omega), if_neg (by omega)]
      · have h2 : ¬ (missF L s.1 > missF L w.1 ∨ (missF L s.1 = missF L w.1 ∧ s.1 < w.1)) := fun h => h1 (hc.2 h)
        rw [if_neg h1, if_neg (by omega), if_neg h0]
theorem rW_worst (L : List Ntd) (C : List Stm) : ((rW L C C.length).1, decide ((rW L C C.length).2 > 0)) = worstF L C := by
  unfold worstF
  by_cases h : C.length = 0
  · rw [if_pos h, h]; rfl
  · rw [if_neg h, rW_inv L C C.length (by omega) (Nat.le_refl _), minWn_all]
    have := miss_pos L (minW L C).1
    split
    · rfl
    · simp; omega
set_option maxHeartbeats 4000000 in
theorem rtworst_spec (G : Nat → AVal) (R : Rtb) (C : List Stm) (L : List Ntd) (hC : C.length ≤ 1000) (hL : L.length ≤ 100000) (hg : GoodL C L) (ha : GoodA L) (hid : ∀ s ∈ C, 0 ≤ s.1) (m : Heap) (hr : RRep R C L m) :
    CallWP Tryz.prog G 34 [.ptr R.p 0] m fun w m' => w = .tuple [.int .i64 (worstF L C).1, .bool (worstF L C).2] ∧ m' = m := by
  have HW := Hid.mk (rW_worst L C)
  obtain ⟨p, vs, vl⟩ := R
  obtain ⟨n, hn⟩ : ∃ n, n = C.length := ⟨_, rfl⟩
  have H0 := Hid.mk (And.intro hn hid)
  have HRW := Hid.mk (fun st m' (s : Sub m m') => rtrow_spec G ⟨p, vs, vl⟩ C L hL hg ha st m' (hr.into s))
  have ktb := hr.tab
  simp only at ktb
  have frt : ∀ c, m c = none → (p = c) = False := fun c h => by rw [eq_iff_iff, iff_false]; exact seenB ktb h
  obtain ⟨b, pre, post, N, cap, hw⟩ := (RdS.ways (.inl hr.str) hn : _)
  simp only at hw
  have lL : n ≤ 1000 := by omega
  clear hn hL hg ha hid hC
  rcases hw with ⟨hv, hz⟩ | ⟨hv, hb⟩ | hv
  · subst hv
    subst hz
    clear hr
    have HE := Hid.mk (show worstF L C = (0, false) by rw [← HW.out, ← H0.out.1]; rfl)
    refine callWP_body Tryz.func34 rfl (N := 59) rfl (rs := [.tmp 2, .tmp 3]) rfl en_34 (of_decide_eq_true rfl) ?_
    repeat' (first | exact tf0 ‹_› | exact tf1 ‹_› | exact False.elim ‹_› | (with_reducible refine Al.intro ?_; intro pb hpb; (try simp only [hupd_none'] at hpb); (repeat rcases hpb with ⟨⟨hpx, hpy⟩, hpb⟩)) | with_reducible refine need ?_ | ((with_reducible first | apply frk0 | apply frk1 | apply frk2 | apply frk3 | apply frk4 | apply frk5 | apply frk6 | apply frk7 | apply frk8 | apply frk9) <;> intro h <;> try (exfalso; omega)) | with_reducible refine quiet_and ?_ ?_ | with_reducible refine awp_drawnA mixed (by decide +kernel) ?_ | ((fail_if_success with_reducible refine stp ?_); simp -implicitDefEqProofs only [go_sem, Nat.reduceEqDiff, Nat.reduceAdd, Nat.reduceLT, Nat.reduceMul, Nat.reduceSub, Nat.reduceLeDiff, ↓reduceIte, reduceCtorEq, ↓String.reduceEq, String.reduceNe, Int.reduceToNat, Int.reduceLT, Int.reduceLE, Int.reduceGT, Int.reduceGE, Int.reduceEq, Int.reduceNe, Int.reduceBEq, Int.reduceBNe, Int.reduceAdd, Int.reduceSub, Int.reduceMul, Int.reduceNeg,  *]))
    refine awp_loopP 0 (fun ts m' => ts 4 = .int .i64 0 ∧ ts 5 = .int .i64 0 ∧ m' = m) (fun k ts m' => k = 0 ∧ ts 0 = .ptr p 0 ∧ ts 4 = .int .i64 0 ∧ ts 5 = .int .i64 0 ∧ ts 6 = .int .i64 0 ∧ m' = m) 0 ⟨rfl, ttt, ttt, ttt, ttt, rfl⟩ ?_ ?_
    · rintro k ts m2 ⟨hk, t0, t4, t5, t6, hm2⟩
      subst m2
      repeat' (first | exact tf0 ‹_› | exact tf1 ‹_› | exact False.elim ‹_› | (with_reducible refine Al.intro ?_; intro pb hpb; (try simp only [hupd_none'] at hpb); (repeat rcases hpb with ⟨⟨hpx, hpy⟩, hpb⟩)) | with_reducible refine need ?_ | ((with_reducible first | apply frk0 | apply frk1 | apply frk2 | apply frk3 | apply frk4 | apply frk5 | apply frk6 | apply frk7 | apply frk8 | apply frk9) <;> intro h <;> try (exfalso; omega)) | with_reducible refine quiet_and ?_ ?_ | with_reducible refine awp_drawnA mixed (by decide +kernel) ?_ | ((fail_if_success with_reducible refine stp ?_); simp -implicitDefEqProofs only [go_sem, Nat.reduceEqDiff, Nat.reduceAdd, Nat.reduceLT, Nat.reduceMul, Nat.reduceSub, Nat.reduceLeDiff, ↓reduceIte, reduceCtorEq, ↓String.reduceEq, String.reduceNe, Int.reduceToNat, Int.reduceLT, Int.reduceLE, Int.reduceGT, Int.reduceGE, Int.reduceEq, Int.reduceNe, Int.reduceBEq, Int.reduceBNe, Int.reduceAdd, Int.reduceSub, Int.reduceMul, Int.reduceNeg,  *]))
      exact Again.intro ⟨(by first | (simp only [upd, put, Nat.reduceEqDiff, ↓reduceIte, t4]; done) | (simp [upd, put, t4]; done) | rfl | (simp [upd, put, t4]; rfl)), (by first | (simp only [upd, put, Nat.reduceEqDiff, ↓reduceIte, t5]; done) | (simp [upd, put, t5]; done) | rfl | (simp [upd, put, t5]; rfl)), rfl⟩
    · rintro ts m2 ⟨t4, t5, hm2⟩
      subst m2
      repeat' (first | exact tf0 ‹_› | exact tf1 ‹_› | exact False.elim ‹_› | (with_reducible refine Al.intro ?_; intro pb hpb; (try simp only [hupd_none'] at hpb); (repeat rcases hpb with ⟨⟨hpx, hpy⟩, hpb⟩)) | with_reducible refine need ?_ | ((with_reducible first | apply frk0 | apply frk1 | apply frk2 | apply frk3 | apply frk4 | apply frk5 | apply frk6 | apply frk7 | apply frk8 | apply frk9) <;> intro h <;> try (exfalso; omega)) | with_reducible refine quiet_and ?_ ?_ | with_reducible refine awp_drawnA mixed (by decide +kernel) ?_ | ((fail_if_success with_reducible refine stp ?_); simp -implicitDefEqProofs only [go_sem, Nat.reduceEqDiff, Nat.reduceAdd, Nat.reduceLT, Nat.reduceMul, Nat.reduceSub, Nat.reduceLeDiff, ↓reduceIte, reduceCtorEq, ↓String.reduceEq, String.reduceNe, Int.reduceToNat, Int.reduceLT, Int.reduceLE, Int.reduceGT, Int.reduceGE, Int.reduceEq, Int.reduceNe, Int.reduceBEq, Int.reduceBNe, Int.reduceAdd, Int.reduceSub, Int.reduceMul, Int.reduceNeg,  *]))
      exact ⟨m, Sub.refl _, by rw [HE.out], rfl⟩
  · subst hv
    have HR := Hid.mk hr
    clear hr
    refine callWP_body Tryz.func34 rfl (N := 59) rfl (rs := [.tmp 2, .tmp 3]) rfl en_34 (of_decide_eq_true rfl) ?_
    repeat' (first | exact tf0 ‹_› | exact tf1 ‹_› | exact False.elim ‹_› | (with_reducible refine Al.intro ?_; intro pb hpb; (try simp only [hupd_none'] at hpb); (repeat rcases hpb with ⟨⟨hpx, hpy⟩, hpb⟩)) | with_reducible refine need ?_ | ((with_reducible first | apply frk0 | apply frk1 | apply frk2 | apply frk3 | apply frk4 | apply frk5 | apply frk6 | apply frk7 | apply frk8 | apply frk9) <;> intro h <;> try (exfalso; omega)) | with_reducible refine quiet_and ?_ ?_ | with_reducible refine awp_drawnA mixed (by decide +kernel) ?_ | ((fail_if_success with_reducible refine stp ?_); simp -implicitDefEqProofs only [go_sem, Nat.reduceEqDiff, Nat.reduceAdd, Nat.reduceLT, Nat.reduceMul, Nat.reduceSub, Nat.reduceLeDiff, ↓reduceIte, reduceCtorEq, ↓String.reduceEq, String.reduceNe, Int.reduceToNat, Int.reduceLT, Int.reduceLE, Int.reduceGT, Int.reduceGE, Int.reduceEq, Int.reduceNe, Int.reduceBEq, Int.reduceBNe, Int.reduceAdd, Int.reduceSub, Int.reduceMul, Int.reduceNeg,  *]))
    refine awp_loopP 0 (fun ts m' => ts 4 = .int .i64 (rW L C n).1 ∧ ts 5 = .int .i64 (rW L C n).2 ∧ m' = m)
      (fun k ts m' => ∃ i : Nat, Hid (k = n - i ∧ i ≤ n) ∧ ts 0 = .ptr p 0 ∧ ts 4 = .int .i64 (rW L C i).1 ∧ ts 5 = .int .i64 (rW L C i).2 ∧ ts 6 = .int .i64 (i : Nat) ∧ m' = m) n
      ⟨0, .mk ⟨rfl, Nat.zero_le _⟩, ttt, ttt, ttt, ttt, rfl⟩ ?_ ?_
    · rintro k ts m2 ⟨i, H, t0, t4, t5, t6, hm2⟩
      subst m2
      by_cases hi : i < n
      · have lt : (i : Int) < (n : Int) := by omega
        have hiC : i < C.length := by have := H0.out.1; omega
        obtain ⟨x, hx⟩ : ∃ x, C.getD i default = x := ⟨_, rfl⟩
        have g1 := sm_cell C pre post i hiC x hx 0 (by decide)
        rw [Nat.add_zero, show (encSc x).getD 0 .undef = .int .i64 x.1 from rfl] at g1
        have l1 := sm_len C pre post i hiC
        have w1 : IntKind.i64.wrap ((i : Int) + 1) = ((i + 1 : Nat) : Int) := by rw [wrap_i64 (by omega) (by omega)]; omega
        have hxm : x ∈ C := by rw [← hx]; exact getD_mem C i hiC
        have hx0 := H0.out.2 x hxm
        have hst : rW L C (i + 1) = stepW (rW L C i) x.1 (missF L x.1) := by rw [← hx]; rfl
        have HR1 : Hid (∀ m', Sub m m' → CallWP Tryz.prog G 59 [.ptr p 0, .int .i64 x.1] m' fun w m2 => w = rowVal x.1 (rowOf (pId x.1) L) ∧ m2 = m') := .mk (fun m' s => by have := HRW.out x.1 m' s; rw [pSt_pos hx0] at this; exact this)
        have hmi : missF L x.1 = (rowOf (pId x.1) L).2.1.2.2.2.2.2 := rfl
        rw [hmi] at hst
        have hmp := miss_pos L x.1
        rw [hmi] at hmp
        generalize rowOf (pId x.1) L = r at *
        obtain ⟨tk, ⟨f0, f1, f2, f3, f4, f5⟩, wo, be, so⟩ := r
        simp only at hst hmp
        obtain ⟨⟨at0, mo⟩, hrw⟩ : ∃ a, rW L C i = a := ⟨_, rfl⟩
        rw [hrw] at hst t4 t5
        simp only at t4 t5
        have HST := Hid.mk hst
        have HMP := Hid.mk hmp
        clear hx hiC hxm hx0 hst hmi hmp hrw
        by_cases h1 : f5 > mo
        · have HS := Hid.mk (HST.out.trans (if_pos (.inl h1)))
          repeat' (first | exact tf0 ‹_› | exact tf1 ‹_› | exact False.elim ‹_› | (with_reducible refine Al.intro ?_; intro pb hpb; (try simp only [hupd_none'] at hpb); (repeat rcases hpb with ⟨⟨hpx, hpy⟩, hpb⟩)) | with_reducible refine need ?_ | ((with_reducible first | apply frk0 | apply frk1 | apply frk2 | apply frk3 | apply frk4 | apply frk5 | apply frk6 | apply frk7 | apply frk8 | apply frk9) <;> intro h <;> try (exfalso; omega)) | with_reducible refine quiet_and ?_ ?_ | with_reducible refine awp_drawnA mixed (by decide +kernel) ?_ | ((fail_if_success with_reducible refine stp ?_); simp -implicitDefEqProofs only [go_sem, Nat.reduceEqDiff, Nat.reduceAdd, Nat.reduceLT, Nat.reduceMul, Nat.reduceSub, Nat.reduceLeDiff, ↓reduceIte, reduceCtorEq, ↓String.reduceEq, String.reduceNe, Int.reduceToNat, Int.reduceLT, Int.reduceLE, Int.reduceGT, Int.reduceGE, Int.reduceEq, Int.reduceNe, Int.reduceBEq, Int.reduceBNe, Int.reduceAdd, Int.reduceSub, Int.reduceMul, Int.reduceNeg,  *]))
          refine CallWP.to (HR1.out _ (by (repeat refine Sub.fresh ?_ (by assumption)); exact Sub.refl _)) ?_
          repeat' (first | exact tf0 ‹_› | exact tf1 ‹_› | exact False.elim ‹_› | (with_reducible refine Al.intro ?_; intro pb hpb; (try simp only [hupd_none'] at hpb); (repeat rcases hpb with ⟨⟨hpx, hpy⟩, hpb⟩)) | with_reducible refine need ?_ | ((with_reducible first | apply frk0 | apply frk1 | apply frk2 | apply frk3 | apply frk4 | apply frk5 | apply frk6 | apply frk7 | apply frk8 | apply frk9) <;> intro h <;> try (exfalso; omega)) | with_reducible refine quiet_and ?_ ?_ | with_reducible refine awp_drawnA mixed (by decide +kernel) ?_ | ((fail_if_success with_reducible refine stp ?_); simp -implicitDefEqProofs only [go_sem, Nat.reduceEqDiff, Nat.reduceAdd, Nat.reduceLT, Nat.reduceMul, Nat.reduceSub, Nat.reduceLeDiff, ↓reduceIte, reduceCtorEq, ↓String.reduceEq, String.reduceNe, Int.reduceToNat, Int.reduceLT, Int.reduceLE, Int.reduceGT, Int.reduceGE, Int.reduceEq, Int.reduceNe, Int.reduceBEq, Int.reduceBNe, Int.reduceAdd, Int.reduceSub, Int.reduceMul, Int.reduceNeg,  rowVal, *]))
          exact Again.intro ⟨n - (i + 1), by have := H.out; omega, m, (by (repeat refine Sub.fresh ?_ (by assumption)); exact Sub.refl _), i + 1, .mk ⟨rfl, by omega⟩, (by first | (simp only [upd, put, Nat.reduceEqDiff, ↓reduceIte, t0]; done) | (simp [upd, put, t0]; done) | rfl | (simp [upd, put, t0]; rfl)), by rw [HS.out]; exact ttt, by rw [HS.out]; exact ttt, ttt, rfl⟩
        · by_cases h2 : f5 = mo
          · have h2b : (f5 == mo) = true := by simpa using h2
            by_cases h3 : f5 > 0
            · by_cases h4 : x.1 < at0
              · have HS := Hid.mk (HST.out.trans (if_pos (.inr ⟨h2, h3, h4⟩)))
                clear h2
                repeat' (first | exact tf0 ‹_› | exact tf1 ‹_› | exact False.elim ‹_› | (with_reducible refine Al.intro ?_; intro pb hpb; (try simp only [hupd_none'] at hpb); (repeat rcases hpb with ⟨⟨hpx, hpy⟩, hpb⟩)) | with_reducible refine need ?_ | ((with_reducible first | apply frk0 | apply frk1 | apply frk2 | apply frk3 | apply frk4 | apply frk5 | apply frk6 | apply frk7 | apply frk8 | apply frk9) <;> intro h <;> try (exfalso; omega)) | with_reducible refine quiet_and ?_ ?_ | with_reducible refine awp_drawnA mixed (by decide +kernel) ?_ | ((fail_if_success with_reducible refine stp ?_); simp -implicitDefEqProofs only [go_sem, Nat.reduceEqDiff, Nat.reduceAdd, Nat.reduceLT, Nat.reduceMul, Nat.reduceSub, Nat.reduceLeDiff, ↓reduceIte, reduceCtorEq, ↓String.reduceEq, String.reduceNe, Int.reduceToNat, Int.reduceLT, Int.reduceLE, Int.reduceGT, Int.reduceGE, Int.reduceEq, Int.reduceNe, Int.reduceBEq, Int.reduceBNe, Int.reduceAdd, Int.reduceSub, Int.reduceMul, Int.reduceNeg,  *]))
                refine CallWP.to (HR1.out _ (by (repeat refine Sub.fresh ?_ (by assumption)); exact Sub.refl _)) ?_
                repeat' (first | exact tf0 ‹_› | exact tf1 ‹_› | exact False.elim ‹_› | (with_reducible refine Al.intro ?_; intro pb hpb; (try simp only [hupd_none'] at hpb); (repeat rcases hpb with ⟨⟨hpx, hpy⟩, hpb⟩)) | with_reducible refine need ?_ | ((with_reducible first | apply frk0 | apply frk1 | apply frk2 | apply frk3 | apply frk4 | apply frk5 | apply frk6 | apply frk7 | apply frk8 | apply frk9) <;> intro h <;> try (exfalso; omega)) | with_reducible refine quiet_and ?_ ?_ | with_reducible refine awp_drawnA mixed (by decide +kernel) ?_ | ((fail_if_success with_reducible refine stp ?_); simp -implicitDefEqProofs only [go_sem, Nat.reduceEqDiff, Nat.reduceAdd, Nat.reduceLT, Nat.reduceMul, Nat.reduceSub, Nat.reduceLeDiff, ↓reduceIte, reduceCtorEq, ↓String.reduceEq, String.reduceNe, Int.reduceToNat, Int.reduceLT, Int.reduceLE, Int.reduceGT, Int.reduceGE, Int.reduceEq, Int.reduceNe, Int.reduceBEq, Int.reduceBNe, Int.reduceAdd, Int.reduceSub, Int.reduceMul, Int.reduceNeg,  rowVal, *]))
                exact Again.intro ⟨n - (i + 1), by have := H.out; omega, m, (by (repeat refine Sub.fresh ?_ (by assumption)); exact Sub.refl _), i + 1, .mk ⟨rfl, by omega⟩, (by first | (simp only [upd, put, Nat.reduceEqDiff, ↓reduceIte, t0]; done) | (simp [upd, put, t0]; done) | rfl | (simp [upd, put, t0]; rfl)), by rw [HS.out]; exact ttt, by rw [HS.out]; exact ttt, ttt, rfl⟩
              · have HS := Hid.mk (HST.out.trans (if_neg (fun h => h.elim h1 (fun h => h4 h.2.2))))
                clear h2
                repeat' (first | exact tf0 ‹_› | exact tf1 ‹_› | exact False.elim ‹_› | (with_reducible refine Al.intro ?_; intro pb hpb; (try simp only [hupd_none'] at hpb); (repeat rcases hpb with ⟨⟨hpx, hpy⟩, hpb⟩)) | with_reducible refine need ?_ | ((with_reducible first | apply frk0 | apply frk1 | apply frk2 | apply frk3 | apply frk4 | apply frk5 | apply frk6 | apply frk7 | apply frk8 | apply frk9) <;> intro h <;> try (exfalso; omega)) | with_reducible refine quiet_and ?_ ?_ | with_reducible refine awp_drawnA mixed (by decide +kernel) ?_ | ((fail_if_success with_reducible refine stp ?_); simp -implicitDefEqProofs only [go_sem, Nat.reduceEqDiff, Nat.reduceAdd, Nat.reduceLT, Nat.reduceMul, Nat.reduceSub, Nat.reduceLeDiff, ↓reduceIte, reduceCtorEq, ↓String.reduceEq, String.reduceNe, Int.reduceToNat, Int.reduceLT, Int.reduceLE, Int.reduceGT, Int.reduceGE, Int.reduceEq, Int.reduceNe, Int.reduceBEq, Int.reduceBNe, Int.reduceAdd, Int.reduceSub, Int.reduceMul, Int.reduceNeg,  *]))
                refine CallWP.to (HR1.out _ (by (repeat refine Sub.fresh ?_ (by assumption)); exact Sub.refl _)) ?_
                repeat' (first | exact tf0 ‹_› | exact tf1 ‹_› | exact False.elim ‹_› | (with_reducible refine Al.intro ?_; intro pb hpb; (try simp only [hupd_none'] at hpb); (repeat rcases hpb with ⟨⟨hpx, hpy⟩, hpb⟩)) | with_reducible refine need ?_ | ((with_reducible first | apply frk0 | apply frk1 | apply frk2 | apply frk3 | apply frk4 | apply frk5 | apply frk6 | apply frk7 | apply frk8 | apply frk9) <;> intro h <;> try (exfalso; omega)) | with_reducible refine quiet_and ?_ ?_ | with_reducible refine awp_drawnA mixed (by decide +kernel) ?_ | ((fail_if_success with_reducible refine stp ?_); simp -implicitDefEqProofs only [go_sem, Nat.reduceEqDiff, Nat.reduceAdd, Nat.reduceLT, Nat.reduceMul, Nat.reduceSub, Nat.reduceLeDiff, ↓reduceIte, reduceCtorEq, ↓String.reduceEq, String.reduceNe, Int.reduceToNat, Int.reduceLT, Int.reduceLE, Int.reduceGT, Int.reduceGE, Int.reduceEq, Int.reduceNe, Int.reduceBEq, Int.reduceBNe, Int.reduceAdd, Int.reduceSub, Int.reduceMul, Int.reduceNeg,  rowVal, *]))
                exact Again.intro ⟨n - (i + 1), by have := H.out; omega, m, (by (repeat refine Sub.fresh ?_ (by assumption)); exact Sub.refl _), i + 1, .mk ⟨rfl, by omega⟩, (by first | (simp only [upd, put, Nat.reduceEqDiff, ↓reduceIte, t0]; done) | (simp [upd, put, t0]; done) | rfl | (simp [upd, put, t0]; rfl)), by rw [HS.out]; exact (by first | (simp only [upd, put, Nat.reduceEqDiff, ↓reduceIte, t4]; done) | (simp [upd, put, t4]; done) | rfl | (simp [upd, put, t4]; rfl)), by rw [HS.out]; exact (by first | (simp only [upd, put, Nat.reduceEqDiff, ↓reduceIte, t5]; done) | (simp [upd, put, t5]; done) | rfl | (simp [upd, put, t5]; rfl)), ttt, rfl⟩
            · have HS := Hid.mk (HST.out.trans (if_neg (fun h => h.elim h1 (fun h => h3 h.2.1))))
              clear h2
              repeat' (first | exact tf0 ‹_› | exact tf1 ‹_› | exact False.elim ‹_› | (with_reducible refine Al.intro ?_; intro pb hpb; (try simp only [hupd_none'] at hpb); (repeat rcases hpb with ⟨⟨hpx, hpy⟩, hpb⟩)) | with_reducible refine need ?_ | ((with_reducible first | apply frk0 | apply frk1 | apply frk2 | apply frk3 | apply frk4 | apply frk5 | apply frk6 | apply frk7 | apply frk8 | apply frk9) <;> intro h <;> try (exfalso; omega)) | with_reducible refine quiet_and ?_ ?_ | with_reducible refine awp_drawnA mixed (by decide +kernel) ?_ | ((fail_if_success with_reducible refine stp ?_); simp -implicitDefEqProofs only [go_sem, Nat.reduceEqDiff, Nat.reduceAdd, Nat.reduceLT, Nat.reduceMul, Nat.reduceSub, Nat.reduceLeDiff, ↓reduceIte, reduceCtorEq, ↓String.reduceEq, String.reduceNe, Int.reduceToNat, Int.reduceLT, Int.reduceLE, Int.reduceGT, Int.reduceGE, Int.reduceEq, Int.reduceNe, Int.reduceBEq, Int.reduceBNe, Int.reduceAdd, Int.reduceSub, Int.reduceMul, Int.reduceNeg,  *]))
              refine CallWP.to (HR1.out _ (by (repeat refine Sub.fresh ?_ (by assumption)); exact Sub.refl _)) ?_
              repeat' (first | exact tf0 ‹_› | exact tf1 ‹_› | exact False.elim ‹_› | (with_reducible refine Al.intro ?_; intro pb hpb; (try simp only [hupd_none'] at hpb); (repeat rcases hpb with ⟨⟨hpx, hpy⟩, hpb⟩)) | with_reducible refine need ?_ | ((with_reducible first | apply frk0 | apply frk1 | apply frk2 | apply frk3 | apply frk4 | apply frk5 | apply frk6 | apply frk7 | apply frk8 | apply frk9) <;> intro h <;> try (exfalso; omega)) | with_reducible refine quiet_and ?_ ?_ | with_reducible refine awp_drawnA mixed (by decide +kernel) ?_ | ((fail_if_success with_reducible refine stp ?_); simp -implicitDefEqProofs only [go_sem, Nat.reduceEqDiff, Nat.reduceAdd, Nat.reduceLT, Nat.reduceMul, Nat.reduceSub, Nat.reduceLeDiff, ↓reduceIte, reduceCtorEq, ↓String.reduceEq, String.reduceNe, Int.reduceToNat, Int.reduceLT, Int.reduceLE, Int.reduceGT, Int.reduceGE, Int.reduceEq, Int.reduceNe, Int.reduceBEq, Int.reduceBNe, Int.reduceAdd, Int.reduceSub, Int.reduceMul, Int.reduceNeg,  rowVal, *]))
              exact Again.intro ⟨n - (i + 1), by have := H.out; omega, m, (by (repeat refine Sub.fresh ?_ (by assumption)); exact Sub.refl _), i + 1, .mk ⟨rfl, by omega⟩, (by first | (simp only [upd, put, Nat.reduceEqDiff, ↓reduceIte, t0]; done) | (simp [upd, put, t0]; done) | rfl | (simp [upd, put, t0]; rfl)), by rw [HS.out]; exact (by first | (simp only [upd, put, Nat.reduceEqDiff, ↓reduceIte, t4]; done) | (simp [upd, put, t4]; done) | rfl | (simp [upd, put, t4]; rfl)), by rw [HS.out]; exact (by first | (simp only [upd, put, Nat.reduceEqDiff, ↓reduceIte, t5]; done) | (simp [upd, put, t5]; done) | rfl | (simp [upd, put, t5]; rfl)), ttt, rfl⟩
          · have h2b : (f5 == mo) = false := by simpa using h2
            have HS := Hid.mk (HST.out.trans (if_neg (fun h => h.elim h1 (fun h => h2 h.1))))
            clear h2
            repeat' (first | exact tf0 ‹_› | exact tf1 ‹_› | exact False.elim ‹_› | (with_reducible refine Al.intro ?_; intro pb hpb; (try simp only [hupd_none'] at hpb); (repeat rcases hpb with ⟨⟨hpx, hpy⟩, hpb⟩)) | with_reducible refine need ?_ | ((with_reducible first | apply frk0 | apply frk1 | apply frk2 | apply frk3 | apply frk4 | apply frk5 | apply frk6 | apply frk7 | apply frk8 | apply frk9) <;> intro h <;> try (exfalso; omega)) | with_reducible refine quiet_and ?_ ?_ | with_reducible refine awp_drawnA mixed (by decide +kernel) ?_ | ((fail_if_success with_reducible refine stp ?_); simp -implicitDefEqProofs only [go_sem, Nat.reduceEqDiff, Nat.reduceAdd, Nat.reduceLT, Nat.reduceMul, Nat.reduceSub, Nat.reduceLeDiff, ↓reduceIte, reduceCtorEq, ↓String.reduceEq, String.reduceNe, Int.reduceToNat, Int.reduceLT, Int.reduceLE, Int.reduceGT, Int.reduceGE, Int.reduceEq, Int.reduceNe, Int.reduceBEq, Int.reduceBNe, Int.reduceAdd, Int.reduceSub, Int.reduceMul, Int.reduceNeg,  *]))
            refine CallWP.to (HR1.out _ (by (repeat refine Sub.fresh ?_ (by assumption)); exact Sub.refl _)) ?_
            repeat' (first | exact tf0 ‹_› | exact tf1 ‹_› | exact False.elim ‹_› | (with_reducible refine Al.intro ?_; intro pb hpb; (try simp only [hupd_none'] at hpb); (repeat rcases hpb with ⟨⟨hpx, hpy⟩, hpb⟩)) | with_reducible refine need ?_ | ((with_reducible first | apply frk0 | apply frk1 | apply frk2 | apply frk3 | apply frk4 | apply frk5 | apply frk6 | apply frk7 | apply frk8 | apply frk9) <;> intro h <;> try (exfalso; omega)) | with_reducible refine quiet_and ?_ ?_ | with_reducible refine awp_drawnA mixed (by decide +kernel) ?_ | ((fail_if_success with_reducible refine stp ?_); simp -implicitDefEqProofs only [go_sem, Nat.reduceEqDiff, Nat.reduceAdd, Nat.reduceLT, Nat.reduceMul, Nat.reduceSub, Nat.reduceLeDiff, ↓reduceIte, reduceCtorEq, ↓String.reduceEq, String.reduceNe, Int.reduceToNat, Int.reduceLT, Int.reduceLE, Int.reduceGT, Int.reduceGE, Int.reduceEq, Int.reduceNe, Int.reduceBEq, Int.reduceBNe, Int.reduceAdd, Int.reduceSub, Int.reduceMul, Int.reduceNeg,  rowVal, *]))
            exact Again.intro ⟨n - (i + 1), by have := H.out; omega, m, (by (repeat refine Sub.fresh ?_ (by assumption)); exact Sub.refl _), i + 1, .mk ⟨rfl, by omega⟩, (by first | (simp only [upd, put, Nat.reduceEqDiff, ↓reduceIte, t0]; done) | (simp [upd, put, t0]; done) | rfl | (simp [upd, put, t0]; rfl)), by rw [HS.out]; exact (by first | (simp only [upd, put, Nat.reduceEqDiff, ↓reduceIte, t4]; done) | (simp [upd, put, t4]; done) | rfl | (simp [upd, put, t4]; rfl)), by rw [HS.out]; exact (by first | (simp only [upd, put, Nat.reduceEqDiff, ↓reduceIte, t5]; done) | (simp [upd, put, t5]; done) | rfl | (simp [upd, put, t5]; rfl)), ttt, rfl⟩
      · have lt : ¬ (i : Int) < (n : Int) := by omega
        have hin : i = n := by have := H.out; omega
        subst hin
        repeat' (first | exact tf0 ‹_› | exact tf1 ‹_› | exact False.elim ‹_› | (with_reducible refine Al.intro ?_; intro pb hpb; (try simp only [hupd_none'] at hpb); (repeat rcases hpb with ⟨⟨hpx, hpy⟩, hpb⟩)) | with_reducible refine need ?_ | ((with_reducible first | apply frk0 | apply frk1 | apply frk2 | apply frk3 | apply frk4 | apply frk5 | apply frk6 | apply frk7 | apply frk8 | apply frk9) <;> intro h <;> try (exfalso; omega)) | with_reducible refine quiet_and ?_ ?_ | with_reducible refine awp_drawnA mixed (by decide +kernel) ?_ | ((fail_if_success with_reducible refine stp ?_); simp -implicitDefEqProofs only [go_sem, Nat.reduceEqDiff, Nat.reduceAdd, Nat.reduceLT, Nat.reduceMul, Nat.reduceSub, Nat.reduceLeDiff, ↓reduceIte, reduceCtorEq, ↓String.reduceEq, String.reduceNe, Int.reduceToNat, Int.reduceLT, Int.reduceLE, Int.reduceGT, Int.reduceGE, Int.reduceEq, Int.reduceNe, Int.reduceBEq, Int.reduceBNe, Int.reduceAdd, Int.reduceSub, Int.reduceMul, Int.reduceNeg,  *]))
        exact Again.intro ⟨(by first | (simp only [upd, put, Nat.reduceEqDiff, ↓reduceIte, t4]; done) | (simp [upd, put, t4]; done) | rfl | (simp [upd, put, t4]; rfl)), (by first | (simp only [upd, put, Nat.reduceEqDiff, ↓reduceIte, t5]; done) | (simp [upd, put, t5]; done) | rfl | (simp [upd, put, t5]; rfl)), rfl⟩
    · rintro ts m2 ⟨t4, t5, hm2⟩
      subst m2
      have HE := Hid.mk (show worstF L C = ((rW L C n).1, decide ((rW L C n).2 > 0)) by rw [← HW.out, ← H0.out.1])
      repeat' (first | exact tf0 ‹_› | exact tf1 ‹_› | exact False.elim ‹_› | (with_reducible refine Al.intro ?_; intro pb hpb; (try simp only [hupd_none'] at hpb); (repeat rcases hpb with ⟨⟨hpx, hpy⟩, hpb⟩)) | with_reducible refine need ?_ | ((with_reducible first | apply frk0 | apply frk1 | apply frk2 | apply frk3 | apply frk4 | apply frk5 | apply frk6 | apply frk7 | apply frk8 | apply frk9) <;> intro h <;> try (exfalso; omega)) | with_reducible refine quiet_and ?_ ?_ | with_reducible refine awp_drawnA mixed (by decide +kernel) ?_ | ((fail_if_success with_reducible refine stp ?_); simp -implicitDefEqProofs only [go_sem, Nat.reduceEqDiff, Nat.reduceAdd, Nat.reduceLT, Nat.reduceMul, Nat.reduceSub, Nat.reduceLeDiff, ↓reduceIte, reduceCtorEq, ↓String.reduceEq, String.reduceNe, Int.reduceToNat, Int.reduceLT, Int.reduceLE, Int.reduceGT, Int.reduceGE, Int.reduceEq, Int.reduceNe, Int.reduceBEq, Int.reduceBNe, Int.reduceAdd, Int.reduceSub, Int.reduceMul, Int.reduceNeg,  *]))
      exact ⟨m, Sub.refl _, by rw [HE.out], rfl⟩
  · rcases hr.str with ⟨h, _⟩ | ⟨_, _, _, _, _, _, _, h, _⟩ <;> (simp only at h; rw [hv] at h; cases h)
end Go.Proofs.YtdckcophbmnjjaaGreatDoor
