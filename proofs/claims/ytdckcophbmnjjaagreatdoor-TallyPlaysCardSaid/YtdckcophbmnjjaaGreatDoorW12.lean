/- Which stream came off worst; a stream's ratio. -/
import Derived.Test.YtdckcophbmnjjaaGreatDoorW11
set_option linter.all false
namespace Go.Proofs.YtdckcophbmnjjaaGreatDoor
open Go Go.Proofs.YtdckcophbmnjjaaGreatDoor.Ab
open Go.Proofs (Tryz.prog)
set_option maxRecDepth 100000
/-- Who came off worst. -/
def worstF (L : List Ntd) (C : List Stm) : Int × Bool := if C.length = 0 then (0, false) else if missF L (minW L C).1 = 0 then (0, false) else ((minW L C).1, true)
set_option maxHeartbeats 4000000 in
theorem worst_spec (G : Nat → AVal) (T : Tab) (C : List Stm) (L : List Ntd) (hC : C.length ≤ 1000) (m : Heap) (hr : Rep T C L m) :
    CallWP Tryz.prog G 22 [.ptr T.tb 0] m fun w m' => w = .tuple [.int .i64 (worstF L C).1, .bool (worstF L C).2] ∧ m' = m := by
  obtain ⟨tb, v, rm, fm, rb⟩ := T
  have HR := Hid.mk (And.intro hr hC)
  have ktb := hr.tab
  simp only at ktb
  generalize rowOf pAll L = r0 at *
  obtain ⟨tk, ⟨f0, f1, f2, f3, f4, f5⟩, wo, be, so⟩ := r0
  simp only [rowB, rcel, List.cons_append, List.nil_append] at ktb
  have frt : ∀ c, m c = none → (tb = c) = False := fun c h => by rw [eq_iff_iff, iff_false]; exact seenB ktb h
  have hf := hr.str.slv
  simp only at hf
  clear hr
  by_cases h0 : C.length = 0
  · have HW := Hid.mk (show worstF L C = (0, false) by unfold worstF; rw [if_pos h0])
    rcases hf with ⟨rfl, hz⟩ | ⟨b, o, cap, rfl⟩
    · clear hz h0
      refine callWP_body Tryz.func22 rfl (N := 29) rfl (rs := [.tmp 2, .tmp 3]) rfl en_22 (of_decide_eq_true rfl) ?_
      repeat' (first | exact tf0 ‹_› | exact tf1 ‹_› | exact False.elim ‹_› | (with_reducible refine Al.intro ?_; intro pb hpb; (try simp only [hupd_none'] at hpb); (repeat rcases hpb with ⟨⟨hpx, hpy⟩, hpb⟩)) | with_reducible refine need ?_ | ((with_reducible first | apply frk0 | apply frk1 | apply frk2 | apply frk3 | apply frk4 | apply frk5 | apply frk6 | apply frk7 | apply frk8 | apply frk9) <;> intro h <;> try (exfalso; omega)) | with_reducible refine quiet_and ?_ ?_ | with_reducible refine awp_drawnA mixed (by decide +kernel) ?_ | ((fail_if_success with_reducible refine stp ?_); simp -implicitDefEqProofs only [go_sem, Nat.reduceEqDiff, Nat.reduceAdd, Nat.reduceLT, Nat.reduceMul, Nat.reduceSub, Nat.reduceLeDiff, ↓reduceIte, reduceCtorEq, ↓String.reduceEq, String.reduceNe, Int.reduceToNat, Int.reduceLT, Int.reduceLE, Int.reduceGT, Int.reduceGE, Int.reduceEq, Int.reduceNe, Int.reduceBEq, Int.reduceBNe, Int.reduceAdd, Int.reduceSub, Int.reduceMul, Int.reduceNeg,  *]))
      exact ⟨m, (by (repeat refine Sub.fresh ?_ (by assumption)); exact Sub.refl _), by rw [HW.out], rfl⟩
    · have h1 : ((C.length : Int) == 0) = true := by simpa using (by omega : (C.length : Int) = 0)
      have HZ := Hid.mk h0
      clear h0
      refine callWP_body Tryz.func22 rfl (N := 29) rfl (rs := [.tmp 2, .tmp 3]) rfl en_22 (of_decide_eq_true rfl) ?_
      repeat' (first | exact tf0 ‹_› | exact tf1 ‹_› | exact False.elim ‹_› | (with_reducible refine Al.intro ?_; intro pb hpb; (try simp only [hupd_none'] at hpb); (repeat rcases hpb with ⟨⟨hpx, hpy⟩, hpb⟩)) | with_reducible refine need ?_ | ((with_reducible first | apply frk0 | apply frk1 | apply frk2 | apply frk3 | apply frk4 | apply frk5 | apply frk6 | apply frk7 | apply frk8 | apply frk9) <;> intro h <;> try (exfalso; omega)) | with_reducible refine quiet_and ?_ ?_ | with_reducible refine awp_drawnA mixed (by decide +kernel) ?_ | ((fail_if_success with_reducible refine stp ?_); simp -implicitDefEqProofs only [go_sem, Nat.reduceEqDiff, Nat.reduceAdd, Nat.reduceLT, Nat.reduceMul, Nat.reduceSub, Nat.reduceLeDiff, ↓reduceIte, reduceCtorEq, ↓String.reduceEq, String.reduceNe, Int.reduceToNat, Int.reduceLT, Int.reduceLE, Int.reduceGT, Int.reduceGE, Int.reduceEq, Int.reduceNe, Int.reduceBEq, Int.reduceBNe, Int.reduceAdd, Int.reduceSub, Int.reduceMul, Int.reduceNeg,  *]))
      exact ⟨m, (by (repeat refine Sub.fresh ?_ (by assumption)); exact Sub.refl _), by rw [HW.out], rfl⟩
  · rcases hf with ⟨_, hz⟩ | ⟨b, o, cap, rfl⟩
    · rw [hz] at h0; simp at h0
    · have h1 : ((C.length : Int) == 0) = false := by simpa using (by omega : ¬ (C.length : Int) = 0)
      have HZ := Hid.mk h0
      clear h0
      refine callWP_body Tryz.func22 rfl (N := 29) rfl (rs := [.tmp 2, .tmp 3]) rfl en_22 (of_decide_eq_true rfl) ?_
      repeat' (first | exact tf0 ‹_› | exact tf1 ‹_› | exact False.elim ‹_› | (with_reducible refine Al.intro ?_; intro pb hpb; (try simp only [hupd_none'] at hpb); (repeat rcases hpb with ⟨⟨hpx, hpy⟩, hpb⟩)) | with_reducible refine need ?_ | ((with_reducible first | apply frk0 | apply frk1 | apply frk2 | apply frk3 | apply frk4 | apply frk5 | apply frk6 | apply frk7 | apply frk8 | apply frk9) <;> intro h <;> try (exfalso; omega)) | with_reducible refine quiet_and ?_ ?_ | with_reducible refine awp_drawnA mixed (by decide +kernel) ?_ | ((fail_if_success with_reducible refine stp ?_); simp -implicitDefEqProofs only [go_sem, Nat.reduceEqDiff, Nat.reduceAdd, Nat.reduceLT, Nat.reduceMul, Nat.reduceSub, Nat.reduceLeDiff, ↓reduceIte, reduceCtorEq, ↓String.reduceEq, String.reduceNe, Int.reduceToNat, Int.reduceLT, Int.reduceLE, Int.reduceGT, Int.reduceGE, Int.reduceEq, Int.reduceNe, Int.reduceBEq, Int.reduceBNe, Int.reduceAdd, Int.reduceSub, Int.reduceMul, Int.reduceNeg,  *]))
      rename_i p1 e1
      obtain ⟨p4, e4⟩ : ∃ p, p = pb := ⟨_, rfl⟩
      subst e4
      have HE := Hid.mk (And.intro e1 hpb)
      obtain ⟨M, hM, k1, k4, ks⟩ : ∃ M, M = hupd (hupd m p1 (.cells [.ptr tb 0] 1)) p4 (.cells [.func (.func 51) [] [.ptr p1 0]] 1) ∧ M p1 = some (.cells [.ptr tb 0] 1) ∧ M p4 = some (.cells [.func (.func 51) [] [.ptr p1 0]] 1) ∧ Sub m M :=
        ⟨_, rfl, by rw [hupd_ne hpy, hupd_at, if_pos rfl], by rw [hupd_at, if_pos rfl], ((Sub.refl _).fresh e1).fresh hpb⟩
      rw [← hM]
      clear hM e1 hpb
      have hrM := HR.out.1.into ks
      have HM := Hid.mk (And.intro hrM (And.intro ks (And.intro k1 k4)))
      clear hrM ks
      refine CallWP.to (minW_spec G ⟨tb, _, rm, fm, rb⟩ C L HR.out.2 (by have := HZ.out; omega) p1 p4 M HM.out.1 HM.out.2.2.1 HM.out.2.2.2) ?_
      have hmem : minW L C ∈ C := by rw [← minWn_all]; exact minWn_mem L C _ (by have := HZ.out; omega)
      have HMS : Hid (∀ m3, Sub M m3 → CallWP Tryz.prog G 51 [.agg (encSc (minW L C)), .ptr p1 0] m3 fun w m2 => w = .int .i64 (missF L (minW L C).1) ∧ m2 = m3) := .mk (fun m3 hs => miss_spec G _ C L _ hmem p1 m3 (HM.out.1.into hs) (hs _ _ HM.out.2.2.1))
      have HW := Hid.mk (show worstF L C = if missF L (minW L C).1 = 0 then (0, false) else ((minW L C).1, true) by unfold worstF; rw [if_neg HZ.out])
      obtain ⟨w, hw⟩ : ∃ w, minW L C = w := ⟨_, rfl⟩
      rw [hw] at HMS HW ⊢
      obtain ⟨mi, hmi⟩ : ∃ x, missF L w.1 = x := ⟨_, rfl⟩
      rw [hmi] at HMS HW
      obtain ⟨w0, w1, w2, w3, w4, w5, w6⟩ := w
      have fr4 : ∀ c, M c = none → (p4 = c) = False := fun c h => by rw [eq_iff_iff, iff_false]; exact seenB k4 h
      simp only [encSc] at HMS HW
      clear hmem hw hmi
      by_cases hz : mi = 0
      · have hz1 : (mi == 0) = true := by simpa using hz
        have HZ2 := Hid.mk hz
        clear hz
        repeat' (first | exact tf0 ‹_› | exact tf1 ‹_› | exact False.elim ‹_› | (with_reducible refine Al.intro ?_; intro pb hpb; (try simp only [hupd_none'] at hpb); (repeat rcases hpb with ⟨⟨hpx, hpy⟩, hpb⟩)) | with_reducible refine need ?_ | ((with_reducible first | apply frk0 | apply frk1 | apply frk2 | apply frk3 | apply frk4 | apply frk5 | apply frk6 | apply frk7 | apply frk8 | apply frk9) <;> intro h <;> try (exfalso; omega)) | with_reducible refine quiet_and ?_ ?_ | with_reducible refine awp_drawnA mixed (by decide +kernel) ?_ | ((fail_if_success with_reducible refine stp ?_); simp -implicitDefEqProofs only [go_sem, Nat.reduceEqDiff, Nat.reduceAdd, Nat.reduceLT, Nat.reduceMul, Nat.reduceSub, Nat.reduceLeDiff, ↓reduceIte, reduceCtorEq, ↓String.reduceEq, String.reduceNe, Int.reduceToNat, Int.reduceLT, Int.reduceLE, Int.reduceGT, Int.reduceGE, Int.reduceEq, Int.reduceNe, Int.reduceBEq, Int.reduceBNe, Int.reduceAdd, Int.reduceSub, Int.reduceMul, Int.reduceNeg,  encSc, *]))
        refine CallWP.to (HMS.out _ ((Sub.refl _).fresh hpb)) ?_
        repeat' (first | exact tf0 ‹_› | exact tf1 ‹_› | exact False.elim ‹_› | (with_reducible refine Al.intro ?_; intro pb hpb; (try simp only [hupd_none'] at hpb); (repeat rcases hpb with ⟨⟨hpx, hpy⟩, hpb⟩)) | with_reducible refine need ?_ | ((with_reducible first | apply frk0 | apply frk1 | apply frk2 | apply frk3 | apply frk4 | apply frk5 | apply frk6 | apply frk7 | apply frk8 | apply frk9) <;> intro h <;> try (exfalso; omega)) | with_reducible refine quiet_and ?_ ?_ | with_reducible refine awp_drawnA mixed (by decide +kernel) ?_ | ((fail_if_success with_reducible refine stp ?_); simp -implicitDefEqProofs only [go_sem, Nat.reduceEqDiff, Nat.reduceAdd, Nat.reduceLT, Nat.reduceMul, Nat.reduceSub, Nat.reduceLeDiff, ↓reduceIte, reduceCtorEq, ↓String.reduceEq, String.reduceNe, Int.reduceToNat, Int.reduceLT, Int.reduceLE, Int.reduceGT, Int.reduceGE, Int.reduceEq, Int.reduceNe, Int.reduceBEq, Int.reduceBNe, Int.reduceAdd, Int.reduceSub, Int.reduceMul, Int.reduceNeg,  encSc, *]))
        exact ⟨m, subTrans HM.out.2.1 ((by (repeat refine Sub.fresh ?_ (by assumption)); exact Sub.refl _)), by rw [HW.out, if_pos HZ2.out], rfl⟩
      · have hz1 : (mi == 0) = false := by simpa using hz
        have HZ2 := Hid.mk hz
        clear hz
        repeat' (first | exact tf0 ‹_› | exact tf1 ‹_› | exact False.elim ‹_› | (with_reducible refine Al.intro ?_; intro pb hpb; (try simp only [hupd_none'] at hpb); (repeat rcases hpb with ⟨⟨hpx, hpy⟩, hpb⟩)) | with_reducible refine need ?_ | ((with_reducible first | apply frk0 | apply frk1 | apply frk2 | apply frk3 | apply frk4 | apply frk5 | apply frk6 | apply frk7 | apply frk8 | apply frk9) <;> intro h <;> try (exfalso; omega)) | with_reducible refine quiet_and ?_ ?_ | with_reducible refine awp_drawnA mixed (by decide +kernel) ?_ | ((fail_if_success with_reducible refine stp ?_); simp -implicitDefEqProofs only [go_sem, Nat.reduceEqDiff, Nat.reduceAdd, Nat.reduceLT, Nat.reduceMul, Nat.reduceSub, Nat.reduceLeDiff, ↓reduceIte, reduceCtorEq, ↓String.reduceEq, String.reduceNe, Int.reduceToNat, Int.reduceLT, Int.reduceLE, Int.reduceGT, Int.reduceGE, Int.reduceEq, Int.reduceNe, Int.reduceBEq, Int.reduceBNe, Int.reduceAdd, Int.reduceSub, Int.reduceMul, Int.reduceNeg,  encSc, *]))
        refine CallWP.to (HMS.out _ ((Sub.refl _).fresh hpb)) ?_
        repeat' (first | exact tf0 ‹_› | exact tf1 ‹_› | exact False.elim ‹_› | (with_reducible refine Al.intro ?_; intro pb hpb; (try simp only [hupd_none'] at hpb); (repeat rcases hpb with ⟨⟨hpx, hpy⟩, hpb⟩)) | with_reducible refine need ?_ | ((with_reducible first | apply frk0 | apply frk1 | apply frk2 | apply frk3 | apply frk4 | apply frk5 | apply frk6 | apply frk7 | apply frk8 | apply frk9) <;> intro h <;> try (exfalso; omega)) | with_reducible refine quiet_and ?_ ?_ | with_reducible refine awp_drawnA mixed (by decide +kernel) ?_ | ((fail_if_success with_reducible refine stp ?_); simp -implicitDefEqProofs only [go_sem, Nat.reduceEqDiff, Nat.reduceAdd, Nat.reduceLT, Nat.reduceMul, Nat.reduceSub, Nat.reduceLeDiff, ↓reduceIte, reduceCtorEq, ↓String.reduceEq, String.reduceNe, Int.reduceToNat, Int.reduceLT, Int.reduceLE, Int.reduceGT, Int.reduceGE, Int.reduceEq, Int.reduceNe, Int.reduceBEq, Int.reduceBNe, Int.reduceAdd, Int.reduceSub, Int.reduceMul, Int.reduceNeg,  encSc, *]))
        exact ⟨m, subTrans HM.out.2.1 ((by (repeat refine Sub.fresh ?_ (by assumption)); exact Sub.refl _)), by rw [HW.out, if_neg HZ2.out], rfl⟩
theorem ratio_div (g e : Int) (hg : 0 ≤ g) (hg2 : g ≤ 1000000) (he : 1 ≤ e) : IntKind.i64.wrap ((1000 * g).tdiv e) = (1000 * g).tdiv e := by
  have h1 := Int.tdiv_nonneg (a := 1000 * g) (b := e) (by omega) (by omega)
  have h2 : (1000 * g).tdiv e ≤ 1000 * g := by rw [Int.tdiv_eq_ediv_of_nonneg (by omega)]; exact Int.ediv_le_self _ (by omega)
  exact wrap_i64 (by omega) (by omega)
open Classical in
noncomputable def ratioF (id : Int) (C : List Stm) (L : List Ntd) (f : Int) : Int :=
  if ¬ (∃ s ∈ C, s.1 = id) ∨ (rowOf (pId id) L).1 - (rowOf (pId id) L).2.1.1 = 0 ∨ f < 1 ∨ f > 5 then 0 else (1000 * cntP (fateP (pId id) f) L).tdiv ((rowOf (pId id) L).1 - (rowOf (pId id) L).2.1.1)
set_option maxHeartbeats 4000000 in
theorem ratio_spec (G : Nat → AVal) (T : Tab) (C : List Stm) (L : List Ntd) (hL : L.length ≤ 100000) (id f : Int) (m : Heap) (hr : Rep T C L m) :
    CallWP Tryz.prog G 23 [.ptr T.tb 0, .int .i64 id, .int .i64 f] m fun w m' => w = .int .i64 (ratioF id C L f) ∧ m' = m := by
  by_cases hid : ∃ s ∈ C, s.1 = id
  · have HR := Hid.mk (trow_spec G T C L id hid m hr)
    have hsm := row_small (pId id) L (by omega)
    have h0 : (rowOf (pId id) L).2.1.1 ≤ (rowOf (pId id) L).1 := by
      show cntP (fateP (pId id) 0) L ≤ cntP (pId id) L
      clear hL hsm hr HR
      unfold cntP
      induction L with
      | nil => exact Int.le_refl _
      | cons a t ih =>
        rw [List.map_cons, List.map_cons, List.sum_cons, List.sum_cons]
        have : (if fateP (pId id) 0 a = true then (1 : Int) else 0) ≤ if pId id a = true then 1 else 0 := by
          unfold fateP
          by_cases h : pId id a = true
          · rw [if_pos h]; split <;> omega
          · rw [if_neg h, if_neg (by simp [h])]; exact Int.le_refl _
        omega
    have HX : ∀ k, Hid (ratioF id C L k = if (rowOf (pId id) L).1 - (rowOf (pId id) L).2.1.1 = 0 ∨ k < 1 ∨ k > 5 then 0 else (1000 * cntP (fateP (pId id) k) L).tdiv ((rowOf (pId id) L).1 - (rowOf (pId id) L).2.1.1)) := fun k => .mk (by
      unfold ratioF
      by_cases h : (rowOf (pId id) L).1 - (rowOf (pId id) L).2.1.1 = 0 ∨ k < 1 ∨ k > 5
      · rw [if_pos (.inr h), if_pos h]
      · rw [if_neg (fun g => g.elim (fun g => g hid) h), if_neg h])
    have e1 : cntP (fateP (pId id) 1) L = (rowOf (pId id) L).2.1.2.1 := rfl
    have e2 : cntP (fateP (pId id) 2) L = (rowOf (pId id) L).2.1.2.2.1 := rfl
    have e3 : cntP (fateP (pId id) 3) L = (rowOf (pId id) L).2.1.2.2.2.1 := rfl
    have e4 : cntP (fateP (pId id) 4) L = (rowOf (pId id) L).2.1.2.2.2.2.1 := rfl
    have e5 : cntP (fateP (pId id) 5) L = (rowOf (pId id) L).2.1.2.2.2.2.2 := rfl
    generalize rowOf (pId id) L = r1 at *
    obtain ⟨uk, ⟨g0, g1, g2, g3, g4, g5⟩, uo, ue, us⟩ := r1
    obtain ⟨b1, b2, b3, b4, b5, b6, b7⟩ := hsm
    simp only at b1 b2 b3 b4 b5 b6 b7 h0 e1 e2 e3 e4 e5 HX
    have w1 : IntKind.i64.wrap (uk - g0) = uk - g0 := wrap_i64 (by omega) (by omega)
    have HE := Hid.mk (And.intro e1 (And.intro e2 (And.intro e3 (And.intro e4 e5))))
    have HB := Hid.mk (And.intro b1 (And.intro b2 (And.intro b3 (And.intro b4 (And.intro b5 (And.intro b6 b7))))))
    have H0 := Hid.mk h0
    clear hr e1 e2 e3 e4 e5 b1 b2 b3 b4 b5 b6 b7 hL hid h0
    by_cases hz : uk - g0 = 0
    · have hz1 : (uk - g0 == 0) = true := by simpa using hz
      have HV := Hid.mk ((HX f).out.trans (if_pos (.inl hz)))
      clear hz HX
      refine callWP_body Tryz.func23 rfl (N := 43) rfl (rs := [.tmp 6]) rfl en_23 (of_decide_eq_true rfl) ?_
      repeat' (first | exact tf0 ‹_› | exact tf1 ‹_› | exact False.elim ‹_› | (with_reducible refine Al.intro ?_; intro pb hpb; (try simp only [hupd_none'] at hpb); (repeat rcases hpb with ⟨⟨hpx, hpy⟩, hpb⟩)) | with_reducible refine need ?_ | ((with_reducible first | apply frk0 | apply frk1 | apply frk2 | apply frk3 | apply frk4 | apply frk5 | apply frk6 | apply frk7 | apply frk8 | apply frk9) <;> intro h <;> try (exfalso; omega)) | with_reducible refine quiet_and ?_ ?_ | with_reducible refine awp_drawnA mixed (by decide +kernel) ?_ | ((fail_if_success with_reducible refine stp ?_); simp -implicitDefEqProofs only [go_sem, Nat.reduceEqDiff, Nat.reduceAdd, Nat.reduceLT, Nat.reduceMul, Nat.reduceSub, Nat.reduceLeDiff, ↓reduceIte, reduceCtorEq, ↓String.reduceEq, String.reduceNe, Int.reduceToNat, Int.reduceLT, Int.reduceLE, Int.reduceGT, Int.reduceGE, Int.reduceEq, Int.reduceNe, Int.reduceBEq, Int.reduceBNe, Int.reduceAdd, Int.reduceSub, Int.reduceMul, Int.reduceNeg,  *]))
      refine CallWP.to HR.out ?_
      repeat' (first | exact tf0 ‹_› | exact tf1 ‹_› | exact False.elim ‹_› | (with_reducible refine Al.intro ?_; intro pb hpb; (try simp only [hupd_none'] at hpb); (repeat rcases hpb with ⟨⟨hpx, hpy⟩, hpb⟩)) | with_reducible refine need ?_ | ((with_reducible first | apply frk0 | apply frk1 | apply frk2 | apply frk3 | apply frk4 | apply frk5 | apply frk6 | apply frk7 | apply frk8 | apply frk9) <;> intro h <;> try (exfalso; omega)) | with_reducible refine quiet_and ?_ ?_ | with_reducible refine awp_drawnA mixed (by decide +kernel) ?_ | ((fail_if_success with_reducible refine stp ?_); simp -implicitDefEqProofs only [go_sem, Nat.reduceEqDiff, Nat.reduceAdd, Nat.reduceLT, Nat.reduceMul, Nat.reduceSub, Nat.reduceLeDiff, ↓reduceIte, reduceCtorEq, ↓String.reduceEq, String.reduceNe, Int.reduceToNat, Int.reduceLT, Int.reduceLE, Int.reduceGT, Int.reduceGE, Int.reduceEq, Int.reduceNe, Int.reduceBEq, Int.reduceBNe, Int.reduceAdd, Int.reduceSub, Int.reduceMul, Int.reduceNeg,  rowVal, *]))
      exact ⟨m, (by (repeat refine Sub.fresh ?_ (by assumption)); exact Sub.refl _), by rw [HV.out], rfl⟩
    · have hz1 : (uk - g0 == 0) = false := by simpa using hz
      by_cases hf1 : f < 1
      · have HV := Hid.mk ((HX f).out.trans (if_pos (.inr (.inl hf1))))
        clear hz HX
        refine callWP_body Tryz.func23 rfl (N := 43) rfl (rs := [.tmp 6]) rfl en_23 (of_decide_eq_true rfl) ?_
        repeat' (first | exact tf0 ‹_› | exact tf1 ‹_› | exact False.elim ‹_› | (with_reducible refine Al.intro ?_; intro pb hpb; (try simp only [hupd_none'] at hpb); (repeat rcases hpb with ⟨⟨hpx, hpy⟩, hpb⟩)) | with_reducible refine need ?_ | ((with_reducible first | apply frk0 | apply frk1 | apply frk2 | apply frk3 | apply frk4 | apply frk5 | apply frk6 | apply frk7 | apply frk8 | apply frk9) <;> intro h <;> try (exfalso; omega)) | with_reducible refine quiet_and ?_ ?_ | with_reducible refine awp_drawnA mixed (by decide +kernel) ?_ | ((fail_if_success with_reducible refine stp ?_); simp -implicitDefEqProofs only [go_sem, Nat.reduceEqDiff, Nat.reduceAdd, Nat.reduceLT, Nat.reduceMul, Nat.reduceSub, Nat.reduceLeDiff, ↓reduceIte, reduceCtorEq, ↓String.reduceEq, String.reduceNe, Int.reduceToNat, Int.reduceLT, Int.reduceLE, Int.reduceGT, Int.reduceGE, Int.reduceEq, Int.reduceNe, Int.reduceBEq, Int.reduceBNe, Int.reduceAdd, Int.reduceSub, Int.reduceMul, Int.reduceNeg,  *]))
        refine CallWP.to HR.out ?_
        repeat' (first | exact tf0 ‹_› | exact tf1 ‹_› | exact False.elim ‹_› | (with_reducible refine Al.intro ?_; intro pb hpb; (try simp only [hupd_none'] at hpb); (repeat rcases hpb with ⟨⟨hpx, hpy⟩, hpb⟩)) | with_reducible refine need ?_ | ((with_reducible first | apply frk0 | apply frk1 | apply frk2 | apply frk3 | apply frk4 | apply frk5 | apply frk6 | apply frk7 | apply frk8 | apply frk9) <;> intro h <;> try (exfalso; omega)) | with_reducible refine quiet_and ?_ ?_ | with_reducible refine awp_drawnA mixed (by decide +kernel) ?_ | ((fail_if_success with_reducible refine stp ?_); simp -implicitDefEqProofs only [go_sem, Nat.reduceEqDiff, Nat.reduceAdd, Nat.reduceLT, Nat.reduceMul, Nat.reduceSub, Nat.reduceLeDiff, ↓reduceIte, reduceCtorEq, ↓String.reduceEq, String.reduceNe, Int.reduceToNat, Int.reduceLT, Int.reduceLE, Int.reduceGT, Int.reduceGE, Int.reduceEq, Int.reduceNe, Int.reduceBEq, Int.reduceBNe, Int.reduceAdd, Int.reduceSub, Int.reduceMul, Int.reduceNeg,  rowVal, *]))
        exact ⟨m, (by (repeat refine Sub.fresh ?_ (by assumption)); exact Sub.refl _), by rw [HV.out], rfl⟩
      · by_cases hf5 : f > 5
        · have HV := Hid.mk ((HX f).out.trans (if_pos (.inr (.inr hf5))))
          clear hz HX
          refine callWP_body Tryz.func23 rfl (N := 43) rfl (rs := [.tmp 6]) rfl en_23 (of_decide_eq_true rfl) ?_
          repeat' (first | exact tf0 ‹_› | exact tf1 ‹_› | exact False.elim ‹_› | (with_reducible refine Al.intro ?_; intro pb hpb; (try simp only [hupd_none'] at hpb); (repeat rcases hpb with ⟨⟨hpx, hpy⟩, hpb⟩)) | with_reducible refine need ?_ | ((with_reducible first | apply frk0 | apply frk1 | apply frk2 | apply frk3 | apply frk4 | apply frk5 | apply frk6 | apply frk7 | apply frk8 | apply frk9) <;> intro h <;> try (exfalso; omega)) | with_reducible refine quiet_and ?_ ?_ | with_reducible refine awp_drawnA mixed (by decide +kernel) ?_ | ((fail_if_success with_reducible refine stp ?_); simp -implicitDefEqProofs only [go_sem, Nat.reduceEqDiff, Nat.reduceAdd, Nat.reduceLT, Nat.reduceMul, Nat.reduceSub, Nat.reduceLeDiff, ↓reduceIte, reduceCtorEq, ↓String.reduceEq, String.reduceNe, Int.reduceToNat, Int.reduceLT, Int.reduceLE, Int.reduceGT, Int.reduceGE, Int.reduceEq, Int.reduceNe, Int.reduceBEq, Int.reduceBNe, Int.reduceAdd, Int.reduceSub, Int.reduceMul, Int.reduceNeg,  *]))
          refine CallWP.to HR.out ?_
          repeat' (first | exact tf0 ‹_› | exact tf1 ‹_› | exact False.elim ‹_› | (with_reducible refine Al.intro ?_; intro pb hpb; (try simp only [hupd_none'] at hpb); (repeat rcases hpb with ⟨⟨hpx, hpy⟩, hpb⟩)) | with_reducible refine need ?_ | ((with_reducible first | apply frk0 | apply frk1 | apply frk2 | apply frk3 | apply frk4 | apply frk5 | apply frk6 | apply frk7 | apply frk8 | apply frk9) <;> intro h <;> try (exfalso; omega)) | with_reducible refine quiet_and ?_ ?_ | with_reducible refine awp_drawnA mixed (by decide +kernel) ?_ | ((fail_if_success with_reducible refine stp ?_); simp -implicitDefEqProofs only [go_sem, Nat.reduceEqDiff, Nat.reduceAdd, Nat.reduceLT, Nat.reduceMul, Nat.reduceSub, Nat.reduceLeDiff, ↓reduceIte, reduceCtorEq, ↓String.reduceEq, String.reduceNe, Int.reduceToNat, Int.reduceLT, Int.reduceLE, Int.reduceGT, Int.reduceGE, Int.reduceEq, Int.reduceNe, Int.reduceBEq, Int.reduceBNe, Int.reduceAdd, Int.reduceSub, Int.reduceMul, Int.reduceNeg,  rowVal, *]))
          exact ⟨m, (by (repeat refine Sub.fresh ?_ (by assumption)); exact Sub.refl _), by rw [HV.out], rfl⟩
        · have HV := Hid.mk ((HX f).out.trans (if_neg (fun h => h.elim hz (fun h => h.elim hf1 hf5))))
          have he : 1 ≤ uk - g0 := by have := H0.out; omega
          have d1 := ratio_div g1 (uk - g0) HB.out.2.2.1.1 HB.out.2.2.1.2 he
          have d2 := ratio_div g2 (uk - g0) HB.out.2.2.2.1.1 HB.out.2.2.2.1.2 he
          have d3 := ratio_div g3 (uk - g0) HB.out.2.2.2.2.1.1 HB.out.2.2.2.2.1.2 he
          have d4 := ratio_div g4 (uk - g0) HB.out.2.2.2.2.2.1.1 HB.out.2.2.2.2.2.1.2 he
          have d5 := ratio_div g5 (uk - g0) HB.out.2.2.2.2.2.2.1 HB.out.2.2.2.2.2.2.2 he
          have v1 : IntKind.i64.wrap (1000 * g1) = 1000 * g1 := by have := HB.out; exact wrap_i64 (by omega) (by omega)
          have v2 : IntKind.i64.wrap (1000 * g2) = 1000 * g2 := by have := HB.out; exact wrap_i64 (by omega) (by omega)
          have v3 : IntKind.i64.wrap (1000 * g3) = 1000 * g3 := by have := HB.out; exact wrap_i64 (by omega) (by omega)
          have v4 : IntKind.i64.wrap (1000 * g4) = 1000 * g4 := by have := HB.out; exact wrap_i64 (by omega) (by omega)
          have v5 : IntKind.i64.wrap (1000 * g5) = 1000 * g5 := by have := HB.out; exact wrap_i64 (by omega) (by omega)
          have nz : uk - g0 ≠ 0 := hz
          have hf : f = 1 ∨ f = 2 ∨ f = 3 ∨ f = 4 ∨ f = 5 := by omega
          clear hz HX he hf1 hf5
          rcases hf with rfl | rfl | rfl | rfl | rfl
          all_goals (
            refine callWP_body Tryz.func23 rfl (N := 43) rfl (rs := [.tmp 6]) rfl en_23 (of_decide_eq_true rfl) ?_
            repeat' (first | exact tf0 ‹_› | exact tf1 ‹_› | exact False.elim ‹_› | (with_reducible refine Al.intro ?_; intro pb hpb; (try simp only [hupd_none'] at hpb); (repeat rcases hpb with ⟨⟨hpx, hpy⟩, hpb⟩)) | with_reducible refine need ?_ | ((with_reducible first | apply frk0 | apply frk1 | apply frk2 | apply frk3 | apply frk4 | apply frk5 | apply frk6 | apply frk7 | apply frk8 | apply frk9) <;> intro h <;> try (exfalso; omega)) | with_reducible refine quiet_and ?_ ?_ | with_reducible refine awp_drawnA mixed (by decide +kernel) ?_ | ((fail_if_success with_reducible refine stp ?_); simp -implicitDefEqProofs only [go_sem, Nat.reduceEqDiff, Nat.reduceAdd, Nat.reduceLT, Nat.reduceMul, Nat.reduceSub, Nat.reduceLeDiff, ↓reduceIte, reduceCtorEq, ↓String.reduceEq, String.reduceNe, Int.reduceToNat, Int.reduceLT, Int.reduceLE, Int.reduceGT, Int.reduceGE, Int.reduceEq, Int.reduceNe, Int.reduceBEq, Int.reduceBNe, Int.reduceAdd, Int.reduceSub, Int.reduceMul, Int.reduceNeg,  *]))
            refine CallWP.to HR.out ?_
            repeat' (first | exact tf0 ‹_› | exact tf1 ‹_› | exact False.elim ‹_› | (with_reducible refine Al.intro ?_; intro pb hpb; (try simp only [hupd_none'] at hpb); (repeat rcases hpb with ⟨⟨hpx, hpy⟩, hpb⟩)) | with_reducible refine need ?_ | ((with_reducible first | apply frk0 | apply frk1 | apply frk2 | apply frk3 | apply frk4 | apply frk5 | apply frk6 | apply frk7 | apply frk8 | apply frk9) <;> intro h <;> try (exfalso; omega)) | with_reducible refine quiet_and ?_ ?_ | with_reducible refine awp_drawnA mixed (by decide +kernel) ?_ | ((fail_if_success with_reducible refine stp ?_); simp -implicitDefEqProofs only [go_sem, Nat.reduceEqDiff, Nat.reduceAdd, Nat.reduceLT, Nat.reduceMul, Nat.reduceSub, Nat.reduceLeDiff, ↓reduceIte, reduceCtorEq, ↓String.reduceEq, String.reduceNe, Int.reduceToNat, Int.reduceLT, Int.reduceLE, Int.reduceGT, Int.reduceGE, Int.reduceEq, Int.reduceNe, Int.reduceBEq, Int.reduceBNe, Int.reduceAdd, Int.reduceSub, Int.reduceMul, Int.reduceNeg,  rowVal, *]))
            refine ⟨m, (by (repeat refine Sub.fresh ?_ (by assumption)); exact Sub.refl _), ?_, rfl⟩
            rw [HV.out]
            first | rw [HE.out.1] | rw [HE.out.2.1] | rw [HE.out.2.2.1] | rw [HE.out.2.2.2.1] | rw [HE.out.2.2.2.2])
  · have HR := Hid.mk (trow_none G T C L id (fun s hs e => hid ⟨s, hs, e⟩) m hr)
    have HV := Hid.mk (show ratioF id C L f = 0 by unfold ratioF; rw [if_pos (.inl hid)])
    clear hid hr hL
    refine callWP_body Tryz.func23 rfl (N := 43) rfl (rs := [.tmp 6]) rfl en_23 (of_decide_eq_true rfl) ?_
    repeat' (first | exact tf0 ‹_› | exact tf1 ‹_› | exact False.elim ‹_› | (with_reducible refine Al.intro ?_; intro pb hpb; (try simp only [hupd_none'] at hpb); (repeat rcases hpb with ⟨⟨hpx, hpy⟩, hpb⟩)) | with_reducible refine need ?_ | ((with_reducible first | apply frk0 | apply frk1 | apply frk2 | apply frk3 | apply frk4 | apply frk5 | apply frk6 | apply frk7 | apply frk8 | apply frk9) <;> intro h <;> try (exfalso; omega)) | with_reducible refine quiet_and ?_ ?_ | with_reducible refine awp_drawnA mixed (by decide +kernel) ?_ | ((fail_if_success with_reducible refine stp ?_); simp -implicitDefEqProofs only [go_sem, Nat.reduceEqDiff, Nat.reduceAdd, Nat.reduceLT, Nat.reduceMul, Nat.reduceSub, Nat.reduceLeDiff, ↓reduceIte, reduceCtorEq, ↓String.reduceEq, String.reduceNe, Int.reduceToNat, Int.reduceLT, Int.reduceLE, Int.reduceGT, Int.reduceGE, Int.reduceEq, Int.reduceNe, Int.reduceBEq, Int.reduceBNe, Int.reduceAdd, Int.reduceSub, Int.reduceMul, Int.reduceNeg,  *]))
    refine CallWP.to HR.out ?_
    repeat' (first | exact tf0 ‹_› | exact tf1 ‹_› | exact False.elim ‹_› | (with_reducible refine Al.intro ?_; intro pb hpb; (try simp only [hupd_none'] at hpb); (repeat rcases hpb with ⟨⟨hpx, hpy⟩, hpb⟩)) | with_reducible refine need ?_ | ((with_reducible first | apply frk0 | apply frk1 | apply frk2 | apply frk3 | apply frk4 | apply frk5 | apply frk6 | apply frk7 | apply frk8 | apply frk9) <;> intro h <;> try (exfalso; omega)) | with_reducible refine quiet_and ?_ ?_ | with_reducible refine awp_drawnA mixed (by decide +kernel) ?_ | ((fail_if_success with_reducible refine stp ?_); simp -implicitDefEqProofs only [go_sem, Nat.reduceEqDiff, Nat.reduceAdd, Nat.reduceLT, Nat.reduceMul, Nat.reduceSub, Nat.reduceLeDiff, ↓reduceIte, reduceCtorEq, ↓String.reduceEq, String.reduceNe, Int.reduceToNat, Int.reduceLT, Int.reduceLE, Int.reduceGT, Int.reduceGE, Int.reduceEq, Int.reduceNe, Int.reduceBEq, Int.reduceBNe, Int.reduceAdd, Int.reduceSub, Int.reduceMul, Int.reduceNeg,  rowVal, zeroR, *]))
    exact ⟨m, (by (repeat refine Sub.fresh ?_ (by assumption)); exact Sub.refl _), by rw [HV.out], rfl⟩
end Go.Proofs.YtdckcophbmnjjaaGreatDoor
