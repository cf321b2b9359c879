/- What becomes of a frame. A table's rows, told. -/
import Derived.Test.YtdckcophbmnjjaaGreatDoorW7
set_option linter.all false
namespace Go.Proofs.YtdckcophbmnjjaaGreatDoor
open Go Go.Proofs.YtdckcophbmnjjaaGreatDoor.Ab
open Go.Proofs (Tryz.prog)
set_option maxRecDepth 100000
/-- What is known of what came. -/
def GoodL (C : List Stm) (L : List Ntd) : Prop := ∀ x ∈ L, (∃ s ∈ C, s.1 = x.2.1.1) ∧ (0 ≤ x.2.2.1 ∧ x.2.2.1 ≤ 5) ∧ 0 ≤ x.2.1.2.2.1 ∧ x.2.1.2.2.1 ≤ 4503599627370496
/-- What an outcome meets, and what is there then. -/
def fateF (L : List Ntd) (tag k at1 : Int) : Int × List Ntd :=
  match tagIdx L tag with
  | none => (7, L)
  | some i => if k < 1 ∨ k > 5 then (10, L) else if (L.getD i default).2.2.1 ≠ 0 then (8, L) else if at1 < 0 ∨ at1 > 2251799813685248 then (1, L) else (0, L.set i ((L.getD i default).1, (L.getD i default).2.1, k, at1))
theorem getD_getN {L : List Ntd} {i : Nat} (h : i < L.length) : L.getD i default = L[i] := by simp [List.getD_eq_getElem?_getD, h]
theorem frs_set {L : List Ntd} {tag : Int} {i : Nat} (h : tagIdx L tag = some i) (k at1 : Int) (bs : List Nat) (cl : Nat) :
    mput (frsE L) bs cl tag (.agg [.int .i64 (L.getD i default).2.1.1, .int .i64 (L.getD i default).2.1.2.1, .int .i64 (L.getD i default).2.1.2.2.1, .int .i64 (L.getD i default).2.1.2.2.2, .int .i64 k]) = .map (frsE (L.set i ((L.getD i default).1, (L.getD i default).2.1, k, at1))) bs cl := by
  have hl := tagIdx_lt h
  unfold mput
  rw [kidx_frs, h]
  simp only [frsE, List.map_set]
  rw [hl.2]
  rfl
def outR (r : RowT) (k past : Int) : RowT := if k = 1 then endR (turnR r k) past else turnR r k
theorem row_out (p : Ntd → Bool) (L : List Ntd) (i : Nat) (h : i < L.length) (k at1 : Int) (h0 : (L.getD i default).2.2.1 = 0) (hp : p ((L.getD i default).1, (L.getD i default).2.1, k, at1) = p (L.getD i default)) (hk : 1 ≤ k ∧ k ≤ 5) :
    rowOf p (L.set i ((L.getD i default).1, (L.getD i default).2.1, k, at1)) = if p (L.getD i default) then outR (rowOf p L) k (at1 - (L.getD i default).2.1.2.2.1) else rowOf p L := by
  rw [getD_getN h] at *
  exact row_turn p L i h k at1 h0 hp hk
set_option maxHeartbeats 4000000 in
theorem fate_spec (G : Nat → AVal) (T : Tab) (C : List Stm) (L : List Ntd) (hL : L.length ≤ 100000) (hgood : GoodL C L) (tag k at1 : Int) (m : Heap) (hr : Rep T C L m) (K : AVal → Heap → Prop)
    (hK : ∀ m', Rep T C (fateF L tag k at1).2 m' → Else T C m m' → K (.int .i64 (fateF L tag k at1).1) m') : CallWP Tryz.prog G 11 [.ptr T.tb 0, .agg [.int .i64 tag, .int .i64 k, .int .i64 at1]] m K := by
  obtain ⟨tb, v, rm, fm, rb⟩ := T
  have HK := Hid.mk (And.intro hK (And.intro hr (And.intro hgood hL)))
  have ktb := hr.tab
  obtain ⟨bsR, clR, krm⟩ := hr.rows
  obtain ⟨bsF, clF, kfm, hbs⟩ := hr.frs
  simp only at ktb krm kfm
  obtain ⟨r0, hr0⟩ : ∃ r, rowOf pAll L = r := ⟨_, rfl⟩
  rw [hr0] at ktb
  have HR0 := Hid.mk hr0
  clear hr0
  obtain ⟨tk, ⟨f0, f1, f2, f3, f4, f5⟩, wo, be, so⟩ := r0
  simp only [rowB, rcel, List.cons_append, List.nil_append] at ktb
  have frt : ∀ c, m c = none → (tb = c) = False := fun c h => by rw [eq_iff_iff, iff_false]; exact seenB ktb h
  have frr : ∀ c, m c = none → (rm = c) = False := fun c h => by rw [eq_iff_iff, iff_false]; exact seenB krm h
  have frf : ∀ c, m c = none → (fm = c) = False := fun c h => by rw [eq_iff_iff, iff_false]; exact seenB kfm h
  have nx1 : tb ≠ fm := hr.ne_tb.2
  have nx2 : tb ≠ rm := hr.ne_tb.1
  have nx3 : rm ≠ fm := hr.ne
  have HB := Hid.mk (And.intro ktb (And.intro krm (And.intro kfm hbs)))
  clear hK hr hgood hL hbs
  have fin : Hid (∀ c, fateF L tag k at1 = (c, L) → K (.int .i64 c) m) := .mk (fun c h => by
    have := HK.out.1 m (by rw [h]; exact HK.out.2.1) (fun c _ _ => rfl)
    rw [h] at this
    exact this)
  cases ht : tagIdx L tag with
  | none =>
    have hg := mget_frs_none ht
    have HT := Hid.mk (show fateF L tag k at1 = (7, L) by unfold fateF; rw [ht])
    clear ht
    refine callWP_body Tryz.func11 rfl (N := 82) rfl (rs := [.tmp 4]) rfl en_11 (of_decide_eq_true rfl) ?_
    repeat' (first | exact tf0 ‹_› | exact tf1 ‹_› | exact False.elim ‹_› | (with_reducible refine Al.intro ?_; intro pb hpb; (try simp only [hupd_none'] at hpb); (repeat rcases hpb with ⟨⟨hpx, hpy⟩, hpb⟩)) | with_reducible refine need ?_ | ((with_reducible first | apply frk0 | apply frk1 | apply frk2 | apply frk3 | apply frk4 | apply frk5 | apply frk6 | apply frk7 | apply frk8 | apply frk9) <;> intro h <;> try (exfalso; omega)) | with_reducible refine quiet_and ?_ ?_ | with_reducible refine awp_drawnA mixed (by decide +kernel) ?_ | ((fail_if_success with_reducible refine stp ?_); simp -implicitDefEqProofs only [go_sem, Nat.reduceEqDiff, Nat.reduceAdd, Nat.reduceLT, Nat.reduceMul, Nat.reduceSub, Nat.reduceLeDiff, ↓reduceIte, reduceCtorEq, ↓String.reduceEq, String.reduceNe, Int.reduceToNat, Int.reduceLT, Int.reduceLE, Int.reduceGT, Int.reduceGE, Int.reduceEq, Int.reduceNe, Int.reduceBEq, Int.reduceBNe, Int.reduceAdd, Int.reduceSub, Int.reduceMul, Int.reduceNeg,  *]))
    exact ⟨m, (by (repeat refine Sub.fresh ?_ (by assumption)); exact Sub.refl _), fin.out _ HT.out⟩
  | some i =>
    have hg := mget_frs_some ht
    obtain ⟨hi, htg⟩ := tagIdx_lt ht
    have hgd := HK.out.2.2.1 _ (show L.getD i default ∈ L by rw [getD_getN hi]; exact List.getElem_mem hi)
    have hF : fateF L tag k at1 = if k < 1 ∨ k > 5 then (10, L) else if (L.getD i default).2.2.1 ≠ 0 then (8, L) else if at1 < 0 ∨ at1 > 2251799813685248 then (1, L) else (0, L.set i ((L.getD i default).1, (L.getD i default).2.1, k, at1)) := by unfold fateF; rw [ht]
    have hset := fun k => frs_set ht k at1 bsF clF
    have hro := fun p => row_out p L i hi k at1
    obtain ⟨x, hx⟩ : ∃ x, L.getD i default = x := ⟨_, rfl⟩
    rw [hx] at hg hgd hF htg
    simp only [hx] at hset hro
    obtain ⟨xt, ⟨q0, q1, q2, q3⟩, xf, xa⟩ := x
    simp only at hgd htg
    subst htg
    simp only [frV] at hg
    have HX := Hid.mk (And.intro ht (And.intro hi (And.intro hx hgd)))
    clear ht hi hx hgd
    by_cases hk : k < 1 ∨ k > 5
    · have HT := Hid.mk (hF.trans (if_pos hk))
      clear hF hset hro
      by_cases h1 : k < 1
      · refine callWP_body Tryz.func11 rfl (N := 82) rfl (rs := [.tmp 4]) rfl en_11 (of_decide_eq_true rfl) ?_
        repeat' (first | exact tf0 ‹_› | exact tf1 ‹_› | exact False.elim ‹_› | (with_reducible refine Al.intro ?_; intro pb hpb; (try simp only [hupd_none'] at hpb); (repeat rcases hpb with ⟨⟨hpx, hpy⟩, hpb⟩)) | with_reducible refine need ?_ | ((with_reducible first | apply frk0 | apply frk1 | apply frk2 | apply frk3 | apply frk4 | apply frk5 | apply frk6 | apply frk7 | apply frk8 | apply frk9) <;> intro h <;> try (exfalso; omega)) | with_reducible refine quiet_and ?_ ?_ | with_reducible refine awp_drawnA mixed (by decide +kernel) ?_ | ((fail_if_success with_reducible refine stp ?_); simp -implicitDefEqProofs only [go_sem, Nat.reduceEqDiff, Nat.reduceAdd, Nat.reduceLT, Nat.reduceMul, Nat.reduceSub, Nat.reduceLeDiff, ↓reduceIte, reduceCtorEq, ↓String.reduceEq, String.reduceNe, Int.reduceToNat, Int.reduceLT, Int.reduceLE, Int.reduceGT, Int.reduceGE, Int.reduceEq, Int.reduceNe, Int.reduceBEq, Int.reduceBNe, Int.reduceAdd, Int.reduceSub, Int.reduceMul, Int.reduceNeg,  *]))
        exact ⟨m, (by (repeat refine Sub.fresh ?_ (by assumption)); exact Sub.refl _), fin.out _ HT.out⟩
      · have h2 : k > 5 := by omega
        refine callWP_body Tryz.func11 rfl (N := 82) rfl (rs := [.tmp 4]) rfl en_11 (of_decide_eq_true rfl) ?_
        repeat' (first | exact tf0 ‹_› | exact tf1 ‹_› | exact False.elim ‹_› | (with_reducible refine Al.intro ?_; intro pb hpb; (try simp only [hupd_none'] at hpb); (repeat rcases hpb with ⟨⟨hpx, hpy⟩, hpb⟩)) | with_reducible refine need ?_ | ((with_reducible first | apply frk0 | apply frk1 | apply frk2 | apply frk3 | apply frk4 | apply frk5 | apply frk6 | apply frk7 | apply frk8 | apply frk9) <;> intro h <;> try (exfalso; omega)) | with_reducible refine quiet_and ?_ ?_ | with_reducible refine awp_drawnA mixed (by decide +kernel) ?_ | ((fail_if_success with_reducible refine stp ?_); simp -implicitDefEqProofs only [go_sem, Nat.reduceEqDiff, Nat.reduceAdd, Nat.reduceLT, Nat.reduceMul, Nat.reduceSub, Nat.reduceLeDiff, ↓reduceIte, reduceCtorEq, ↓String.reduceEq, String.reduceNe, Int.reduceToNat, Int.reduceLT, Int.reduceLE, Int.reduceGT, Int.reduceGE, Int.reduceEq, Int.reduceNe, Int.reduceBEq, Int.reduceBNe, Int.reduceAdd, Int.reduceSub, Int.reduceMul, Int.reduceNeg,  *]))
        exact ⟨m, (by (repeat refine Sub.fresh ?_ (by assumption)); exact Sub.refl _), fin.out _ HT.out⟩
    · have hk1 : ¬ k < 1 := fun h => hk (.inl h)
      have hk5 : ¬ k > 5 := fun h => hk (.inr h)
      rw [if_neg hk] at hF
      by_cases hxf : xf = 0
      · subst hxf
        rw [if_neg (by simp)] at hF
        by_cases ha : at1 < 0 ∨ at1 > 2251799813685248
        · have HT := Hid.mk (hF.trans (if_pos ha))
          clear hF hset hro
          by_cases h1 : at1 < 0
          · refine callWP_body Tryz.func11 rfl (N := 82) rfl (rs := [.tmp 4]) rfl en_11 (of_decide_eq_true rfl) ?_
            repeat' (first | exact tf0 ‹_› | exact tf1 ‹_› | exact False.elim ‹_› | (with_reducible refine Al.intro ?_; intro pb hpb; (try simp only [hupd_none'] at hpb); (repeat rcases hpb with ⟨⟨hpx, hpy⟩, hpb⟩)) | with_reducible refine need ?_ | ((with_reducible first | apply frk0 | apply frk1 | apply frk2 | apply frk3 | apply frk4 | apply frk5 | apply frk6 | apply frk7 | apply frk8 | apply frk9) <;> intro h <;> try (exfalso; omega)) | with_reducible refine quiet_and ?_ ?_ | with_reducible refine awp_drawnA mixed (by decide +kernel) ?_ | ((fail_if_success with_reducible refine stp ?_); simp -implicitDefEqProofs only [go_sem, Nat.reduceEqDiff, Nat.reduceAdd, Nat.reduceLT, Nat.reduceMul, Nat.reduceSub, Nat.reduceLeDiff, ↓reduceIte, reduceCtorEq, ↓String.reduceEq, String.reduceNe, Int.reduceToNat, Int.reduceLT, Int.reduceLE, Int.reduceGT, Int.reduceGE, Int.reduceEq, Int.reduceNe, Int.reduceBEq, Int.reduceBNe, Int.reduceAdd, Int.reduceSub, Int.reduceMul, Int.reduceNeg,  *]))
            exact ⟨m, (by (repeat refine Sub.fresh ?_ (by assumption)); exact Sub.refl _), fin.out _ HT.out⟩
          · have h2 : at1 > 2251799813685248 := by omega
            refine callWP_body Tryz.func11 rfl (N := 82) rfl (rs := [.tmp 4]) rfl en_11 (of_decide_eq_true rfl) ?_
            repeat' (first | exact tf0 ‹_› | exact tf1 ‹_› | exact False.elim ‹_› | (with_reducible refine Al.intro ?_; intro pb hpb; (try simp only [hupd_none'] at hpb); (repeat rcases hpb with ⟨⟨hpx, hpy⟩, hpb⟩)) | with_reducible refine need ?_ | ((with_reducible first | apply frk0 | apply frk1 | apply frk2 | apply frk3 | apply frk4 | apply frk5 | apply frk6 | apply frk7 | apply frk8 | apply frk9) <;> intro h <;> try (exfalso; omega)) | with_reducible refine quiet_and ?_ ?_ | with_reducible refine awp_drawnA mixed (by decide +kernel) ?_ | ((fail_if_success with_reducible refine stp ?_); simp -implicitDefEqProofs only [go_sem, Nat.reduceEqDiff, Nat.reduceAdd, Nat.reduceLT, Nat.reduceMul, Nat.reduceSub, Nat.reduceLeDiff, ↓reduceIte, reduceCtorEq, ↓String.reduceEq, String.reduceNe, Int.reduceToNat, Int.reduceLT, Int.reduceLE, Int.reduceGT, Int.reduceGE, Int.reduceEq, Int.reduceNe, Int.reduceBEq, Int.reduceBNe, Int.reduceAdd, Int.reduceSub, Int.reduceMul, Int.reduceNeg,  *]))
            exact ⟨m, (by (repeat refine Sub.fresh ?_ (by assumption)); exact Sub.refl _), fin.out _ HT.out⟩
        · have HT := Hid.mk (hF.trans (if_neg ha))
          have ha1 : ¬ at1 < 0 := fun h => ha (.inl h)
          have ha2 : ¬ at1 > 2251799813685248 := fun h => ha (.inr h)
          clear hF fin hk ha
          obtain ⟨s1, hs1, hsq⟩ := HX.out.2.2.2.1
          try simp only at hsq
          have hg2 := mget_rows (rb := rb) (id := q0) ⟨s1, hs1, hsq⟩
          have w1 : IntKind.i64.wrap (at1 - q2) = at1 - q2 := by have := HX.out.2.2.2.2.2; try simp only at this
                                                                 exact wrap_i64 (by omega) (by omega)
          have HS := Hid.mk (And.intro hs1 hsq)
          have HRO := Hid.mk hro
          have hput := hset k
          have HPUT := Hid.mk hput
          have hkk : k = 1 ∨ k = 2 ∨ k = 3 ∨ k = 4 ∨ k = 5 := by omega
          have HKK := Hid.mk hkk
          clear hs1 hsq hset hro hput hkk
          refine callWP_body Tryz.func11 rfl (N := 82) rfl (rs := [.tmp 4]) rfl en_11 (of_decide_eq_true rfl) ?_
          repeat' (first | exact tf0 ‹_› | exact tf1 ‹_› | exact False.elim ‹_› | (with_reducible refine Al.intro ?_; intro pb hpb; (try simp only [hupd_none'] at hpb); (repeat rcases hpb with ⟨⟨hpx, hpy⟩, hpb⟩)) | with_reducible refine need ?_ | ((with_reducible first | apply frk0 | apply frk1 | apply frk2 | apply frk3 | apply frk4 | apply frk5 | apply frk6 | apply frk7 | apply frk8 | apply frk9) <;> intro h <;> try (exfalso; omega)) | with_reducible refine quiet_and ?_ ?_ | with_reducible refine awp_drawnA mixed (by decide +kernel) ?_ | ((fail_if_success with_reducible refine stp ?_); simp -implicitDefEqProofs only [go_sem, Nat.reduceEqDiff, Nat.reduceAdd, Nat.reduceLT, Nat.reduceMul, Nat.reduceSub, Nat.reduceLeDiff, ↓reduceIte, reduceCtorEq, ↓String.reduceEq, String.reduceNe, Int.reduceToNat, Int.reduceLT, Int.reduceLE, Int.reduceGT, Int.reduceGE, Int.reduceEq, Int.reduceNe, Int.reduceBEq, Int.reduceBNe, Int.reduceAdd, Int.reduceSub, Int.reduceMul, Int.reduceNeg,  *]))
          rename_i p3 e3
          obtain ⟨p5, e5⟩ : ∃ p, p = pb := ⟨_, rfl⟩
          subst e5
          have HPB := Hid.mk hpb
          have key : ∀ (c : Nat) (y1 y2 : ABlk), m c ≠ none → hupd (hupd m p3 y1) p5 y2 c = m c := fun c y1 y2 h1 => by
            rw [hupd_ne (fun e => h1 (by rw [e]; exact hpb)), hupd_ne (fun e => h1 (by rw [e]; exact e3))]
          generalize hM : hupd (hupd m p3 _) p5 _ = M
          have key2 : ∀ c, m c ≠ none → M c = m c := fun c h1 => by rw [← hM]; exact key c _ _ h1
          have k3 : M p3 = some (.cells [.int .i64 xt, .int .i64 k, .int .i64 at1] 3) := by rw [← hM, hupd_ne hpy, hupd_at, if_pos rfl]
          have k5 : M p5 = some (.cells [.int .i64 q0, .int .i64 q1, .int .i64 q2, .int .i64 q3, .int .i64 0] 5) := by rw [← hM, hupd_at, if_pos rfl]
          clear hM key hg
          have hrep := HK.out.2.1
          have hxq : s1.1 = q0 := HS.out.2
          have kt2 : M tb = some (rowB v rm fm (-1) (rowOf pAll L)) := (key2 tb (by rw [hrep.tab]; simp)).trans hrep.tab
          have kr2 : M rm = some (.map (rowsE C rb) bsR clR) := (key2 rm (by rw [krm]; simp)).trans krm
          have kf2 : M fm = some (.map (frsE L) bsF clF) := (key2 fm (by rw [kfm]; simp)).trans kfm
          have hrow := hrep.row s1 HS.out.1
          have hnr := hrep.ne_rb HS.out.1
          simp only at hrow hnr
          rw [hxq] at hrow hnr
          have kb2 : M (rb q0) = some (rowA q0 (rowOf (pId q0) L)) := (key2 (rb q0) (by rw [hrow]; simp)).trans hrow
          have sA := row_small pAll L (by have := HK.out.2.2.2; omega)
          have sI := row_small (pId q0) L (by have := HK.out.2.2.2; omega)
          have n3t : p3 ≠ tb := Ne.symm (seenB HB.out.1 e3)
          have n3b : p3 ≠ rb q0 := Ne.symm (seenB hrow e3)
          have n5t : p5 ≠ tb := Ne.symm (seenB HB.out.1 hpb)
          have n5b : p5 ≠ rb q0 := Ne.symm (seenB hrow hpb)
          have n3t' := Ne.symm n3t
          have n3b' := Ne.symm n3b
          have n5t' := Ne.symm n5t
          have n5b' := Ne.symm n5b
          obtain ⟨rA, hrA⟩ : ∃ r, rowOf pAll L = r := ⟨_, rfl⟩
          obtain ⟨rI, hrI⟩ : ∃ r, rowOf (pId q0) L = r := ⟨_, rfl⟩
          rw [hrA] at kt2 sA
          rw [hrI] at kb2 sI
          have tA := Hid.mk (turn_spec G tb 2 (-1) rA sA k HKK.out v rm fm)
          have tI := Hid.mk (turn_spec G (rb q0) 0 q0 rI sI k HKK.out v rm fm)
          have eA := Hid.mk (end_spec G tb 2 (-1) (turnR rA k) (at1 - q2) v rm fm)
          have eI := Hid.mk (end_spec G (rb q0) 0 q0 (turnR rI k) (at1 - q2) v rm fm)
          have HNR := Hid.mk hnr
          have HM2 : Hid (∃ M2, M2 = hupd (hupd M (rb q0) (rowA q0 (outR rI k (at1 - q2)))) tb (rowB v rm fm (-1) (outR rA k (at1 - q2))) ∧ M2 p3 = some (.cells [.int .i64 xt, .int .i64 k, .int .i64 at1] 3) ∧ M2 p5 = some (.cells [.int .i64 q0, .int .i64 q1, .int .i64 q2, .int .i64 q3, .int .i64 0] 5) ∧ M2 tb = some (rowB v rm fm (-1) (outR rA k (at1 - q2))) ∧ M2 fm = some (.map (frsE L) bsF clF)) :=
            .mk ⟨_, rfl, by rw [hupd_ne n3t, hupd_ne n3b]; exact k3, by rw [hupd_ne n5t, hupd_ne n5b]; exact k5, by rw [hupd_at, if_pos rfl], by rw [hupd_ne (Ne.symm nx1), hupd_ne (Ne.symm hnr.2.2)]; exact kf2⟩
          have HY := Hid.mk (And.intro key2 (And.intro kf2 (And.intro hrA (And.intro kt2 (And.intro hrI (And.intro kb2 (And.intro kr2 (And.intro hrow hxq))))))))
          have hbth := Hid.mk (both_spec G tb (-1) rA v rm fm (rb q0) (rowsE C rb) bsR clR q0 M kt2 kr2 hg2)
          clear key2 kf2 kt2 kr2 hrow kb2 sA sI hrA hrI hnr hg2 ktb krm kfm hrep hxq frt frr frf e3 hpb
          refine CallWP.to hbth.out ?_
          by_cases hk1' : k = 1
          · have hkb : (k == 1) = true := by simpa using hk1'
            have HK1 := Hid.mk hk1'
            clear hk1'
            repeat' (first | exact tf0 ‹_› | exact tf1 ‹_› | exact False.elim ‹_› | (with_reducible refine Al.intro ?_; intro pb hpb; (try simp only [hupd_none'] at hpb); (repeat rcases hpb with ⟨⟨hpx, hpy⟩, hpb⟩)) | with_reducible refine need ?_ | ((with_reducible first | apply frk0 | apply frk1 | apply frk2 | apply frk3 | apply frk4 | apply frk5 | apply frk6 | apply frk7 | apply frk8 | apply frk9) <;> intro h <;> try (exfalso; omega)) | with_reducible refine quiet_and ?_ ?_ | with_reducible refine awp_drawnA mixed (by decide +kernel) ?_ | ((fail_if_success with_reducible refine stp ?_); simp -implicitDefEqProofs only [go_sem, Nat.reduceEqDiff, Nat.reduceAdd, Nat.reduceLT, Nat.reduceMul, Nat.reduceSub, Nat.reduceLeDiff, ↓reduceIte, reduceCtorEq, ↓String.reduceEq, String.reduceNe, Int.reduceToNat, Int.reduceLT, Int.reduceLE, Int.reduceGT, Int.reduceGE, Int.reduceEq, Int.reduceNe, Int.reduceBEq, Int.reduceBNe, Int.reduceAdd, Int.reduceSub, Int.reduceMul, Int.reduceNeg,  *]))
            refine awp_loopP 1 (fun ts m' => m' = (hupd (hupd M (rb q0) (rowA q0 (outR rI k (at1 - q2)))) tb (rowB v rm fm (-1) (outR rA k (at1 - q2)))) ∧ ts 0 = .ptr tb 0 ∧ ts 3 = .ptr p3 0 ∧ ts 5 = .ptr p5 0)
              (fun n ts m' => ts 0 = .ptr tb 0 ∧ ts 3 = .ptr p3 0 ∧ ts 5 = .ptr p5 0 ∧ ts 50 = .agg [.ptr (rb q0) 0, .ptr tb 2] ∧ ((n = 2 ∧ m' = M ∧ ts 51 = .int .i64 0) ∨ (n = 1 ∧ m' = hupd M (rb q0) (rowA q0 (outR rI k (at1 - q2))) ∧ ts 51 = .int .i64 1) ∨ (n = 0 ∧ m' = (hupd (hupd M (rb q0) (rowA q0 (outR rI k (at1 - q2)))) tb (rowB v rm fm (-1) (outR rA k (at1 - q2)))) ∧ ts 51 = .int .i64 2))) 2
              ⟨ttt, ttt, ttt, ttt, .inl ⟨rfl, rfl, ttt⟩⟩ ?_ ?_
            · have w2 : IntKind.i64.wrap 1 = 1 := by decide
              have w3 : IntKind.i64.wrap 2 = 2 := by decide
              rintro n ts m' ⟨t0, t3, t5, t50, ⟨rfl, hm, t51⟩ | ⟨rfl, hm, t51⟩ | ⟨rfl, hm, t51⟩⟩ <;> rw [hm] <;> clear hm
              · repeat' (first | exact tf0 ‹_› | exact tf1 ‹_› | exact False.elim ‹_› | (with_reducible refine Al.intro ?_; intro pb hpb; (try simp only [hupd_none'] at hpb); (repeat rcases hpb with ⟨⟨hpx, hpy⟩, hpb⟩)) | with_reducible refine need ?_ | ((with_reducible first | apply frk0 | apply frk1 | apply frk2 | apply frk3 | apply frk4 | apply frk5 | apply frk6 | apply frk7 | apply frk8 | apply frk9) <;> intro h <;> try (exfalso; omega)) | with_reducible refine quiet_and ?_ ?_ | with_reducible refine awp_drawnA mixed (by decide +kernel) ?_ | ((fail_if_success with_reducible refine stp ?_); simp -implicitDefEqProofs only [go_sem, Nat.reduceEqDiff, Nat.reduceAdd, Nat.reduceLT, Nat.reduceMul, Nat.reduceSub, Nat.reduceLeDiff, ↓reduceIte, reduceCtorEq, ↓String.reduceEq, String.reduceNe, Int.reduceToNat, Int.reduceLT, Int.reduceLE, Int.reduceGT, Int.reduceGE, Int.reduceEq, Int.reduceNe, Int.reduceBEq, Int.reduceBNe, Int.reduceAdd, Int.reduceSub, Int.reduceMul, Int.reduceNeg,  *]))
                refine (tI.out M (.inl ⟨rfl, HY.out.2.2.2.2.2.1⟩)).mono ?_
                rintro w m2 ⟨rfl, rfl⟩
                rw [if_pos rfl]
                repeat' (first | exact tf0 ‹_› | exact tf1 ‹_› | exact False.elim ‹_› | (with_reducible refine Al.intro ?_; intro pb hpb; (try simp only [hupd_none'] at hpb); (repeat rcases hpb with ⟨⟨hpx, hpy⟩, hpb⟩)) | with_reducible refine need ?_ | ((with_reducible first | apply frk0 | apply frk1 | apply frk2 | apply frk3 | apply frk4 | apply frk5 | apply frk6 | apply frk7 | apply frk8 | apply frk9) <;> intro h <;> try (exfalso; omega)) | with_reducible refine quiet_and ?_ ?_ | with_reducible refine awp_drawnA mixed (by decide +kernel) ?_ | ((fail_if_success with_reducible refine stp ?_); simp -implicitDefEqProofs only [go_sem, Nat.reduceEqDiff, Nat.reduceAdd, Nat.reduceLT, Nat.reduceMul, Nat.reduceSub, Nat.reduceLeDiff, ↓reduceIte, reduceCtorEq, ↓String.reduceEq, String.reduceNe, Int.reduceToNat, Int.reduceLT, Int.reduceLE, Int.reduceGT, Int.reduceGE, Int.reduceEq, Int.reduceNe, Int.reduceBEq, Int.reduceBNe, Int.reduceAdd, Int.reduceSub, Int.reduceMul, Int.reduceNeg,  *]))
                refine (eI.out (hupd M (rb q0) (rowA q0 (turnR rI k))) (.inl ⟨rfl, by rw [hupd_at, if_pos rfl]⟩)).mono ?_
                rintro w m2 ⟨rfl, rfl⟩
                rw [if_pos rfl]
                rw [hupd_hupd, show endR (turnR rI k) (at1 - q2) = outR rI k (at1 - q2) by unfold outR; rw [if_pos HK1.out]]
                repeat' (first | exact tf0 ‹_› | exact tf1 ‹_› | exact False.elim ‹_› | (with_reducible refine Al.intro ?_; intro pb hpb; (try simp only [hupd_none'] at hpb); (repeat rcases hpb with ⟨⟨hpx, hpy⟩, hpb⟩)) | with_reducible refine need ?_ | ((with_reducible first | apply frk0 | apply frk1 | apply frk2 | apply frk3 | apply frk4 | apply frk5 | apply frk6 | apply frk7 | apply frk8 | apply frk9) <;> intro h <;> try (exfalso; omega)) | with_reducible refine quiet_and ?_ ?_ | with_reducible refine awp_drawnA mixed (by decide +kernel) ?_ | ((fail_if_success with_reducible refine stp ?_); simp -implicitDefEqProofs only [go_sem, Nat.reduceEqDiff, Nat.reduceAdd, Nat.reduceLT, Nat.reduceMul, Nat.reduceSub, Nat.reduceLeDiff, ↓reduceIte, reduceCtorEq, ↓String.reduceEq, String.reduceNe, Int.reduceToNat, Int.reduceLT, Int.reduceLE, Int.reduceGT, Int.reduceGE, Int.reduceEq, Int.reduceNe, Int.reduceBEq, Int.reduceBNe, Int.reduceAdd, Int.reduceSub, Int.reduceMul, Int.reduceNeg,  *]))
                exact Again.intro ⟨1, by decide, _, Sub.refl _, (by first | (simp only [upd, put, Nat.reduceEqDiff, ↓reduceIte, t0]; done) | (simp [upd, put, t0]; done) | rfl | (simp [upd, put, t0]; rfl)), (by first | (simp only [upd, put, Nat.reduceEqDiff, ↓reduceIte, t3]; done) | (simp [upd, put, t3]; done) | rfl | (simp [upd, put, t3]; rfl)), (by first | (simp only [upd, put, Nat.reduceEqDiff, ↓reduceIte, t5]; done) | (simp [upd, put, t5]; done) | rfl | (simp [upd, put, t5]; rfl)), (by first | (simp only [upd, put, Nat.reduceEqDiff, ↓reduceIte, t50]; done) | (simp [upd, put, t50]; done) | rfl | (simp [upd, put, t50]; rfl)), .inr (.inl ⟨rfl, rfl, ttt⟩)⟩
              · repeat' (first | exact tf0 ‹_› | exact tf1 ‹_› | exact False.elim ‹_› | (with_reducible refine Al.intro ?_; intro pb hpb; (try simp only [hupd_none'] at hpb); (repeat rcases hpb with ⟨⟨hpx, hpy⟩, hpb⟩)) | with_reducible refine need ?_ | ((with_reducible first | apply frk0 | apply frk1 | apply frk2 | apply frk3 | apply frk4 | apply frk5 | apply frk6 | apply frk7 | apply frk8 | apply frk9) <;> intro h <;> try (exfalso; omega)) | with_reducible refine quiet_and ?_ ?_ | with_reducible refine awp_drawnA mixed (by decide +kernel) ?_ | ((fail_if_success with_reducible refine stp ?_); simp -implicitDefEqProofs only [go_sem, Nat.reduceEqDiff, Nat.reduceAdd, Nat.reduceLT, Nat.reduceMul, Nat.reduceSub, Nat.reduceLeDiff, ↓reduceIte, reduceCtorEq, ↓String.reduceEq, String.reduceNe, Int.reduceToNat, Int.reduceLT, Int.reduceLE, Int.reduceGT, Int.reduceGE, Int.reduceEq, Int.reduceNe, Int.reduceBEq, Int.reduceBNe, Int.reduceAdd, Int.reduceSub, Int.reduceMul, Int.reduceNeg,  *]))
                refine (tA.out (hupd M (rb q0) (rowA q0 (outR rI k (at1 - q2)))) (.inr ⟨rfl, by rw [hupd_ne (Ne.symm HNR.out.1)]; exact HY.out.2.2.2.1⟩)).mono ?_
                rintro w m2 ⟨rfl, rfl⟩
                rw [if_neg (by decide)]
                repeat' (first | exact tf0 ‹_› | exact tf1 ‹_› | exact False.elim ‹_› | (with_reducible refine Al.intro ?_; intro pb hpb; (try simp only [hupd_none'] at hpb); (repeat rcases hpb with ⟨⟨hpx, hpy⟩, hpb⟩)) | with_reducible refine need ?_ | ((with_reducible first | apply frk0 | apply frk1 | apply frk2 | apply frk3 | apply frk4 | apply frk5 | apply frk6 | apply frk7 | apply frk8 | apply frk9) <;> intro h <;> try (exfalso; omega)) | with_reducible refine quiet_and ?_ ?_ | with_reducible refine awp_drawnA mixed (by decide +kernel) ?_ | ((fail_if_success with_reducible refine stp ?_); simp -implicitDefEqProofs only [go_sem, Nat.reduceEqDiff, Nat.reduceAdd, Nat.reduceLT, Nat.reduceMul, Nat.reduceSub, Nat.reduceLeDiff, ↓reduceIte, reduceCtorEq, ↓String.reduceEq, String.reduceNe, Int.reduceToNat, Int.reduceLT, Int.reduceLE, Int.reduceGT, Int.reduceGE, Int.reduceEq, Int.reduceNe, Int.reduceBEq, Int.reduceBNe, Int.reduceAdd, Int.reduceSub, Int.reduceMul, Int.reduceNeg,  *]))
                refine (eA.out (hupd (hupd M (rb q0) (rowA q0 (outR rI k (at1 - q2)))) tb (rowB v rm fm (-1) (turnR rA k))) (.inr ⟨rfl, by rw [hupd_at, if_pos rfl]⟩)).mono ?_
                rintro w m2 ⟨rfl, rfl⟩
                rw [if_neg (by decide)]
                rw [hupd_hupd, show endR (turnR rA k) (at1 - q2) = outR rA k (at1 - q2) by unfold outR; rw [if_pos HK1.out]]
                repeat' (first | exact tf0 ‹_› | exact tf1 ‹_› | exact False.elim ‹_› | (with_reducible refine Al.intro ?_; intro pb hpb; (try simp only [hupd_none'] at hpb); (repeat rcases hpb with ⟨⟨hpx, hpy⟩, hpb⟩)) | with_reducible refine need ?_ | ((with_reducible first | apply frk0 | apply frk1 | apply frk2 | apply frk3 | apply frk4 | apply frk5 | apply frk6 | apply frk7 | apply frk8 | apply frk9) <;> intro h <;> try (exfalso; omega)) | with_reducible refine quiet_and ?_ ?_ | with_reducible refine awp_drawnA mixed (by decide +kernel) ?_ | ((fail_if_success with_reducible refine stp ?_); simp -implicitDefEqProofs only [go_sem, Nat.reduceEqDiff, Nat.reduceAdd, Nat.reduceLT, Nat.reduceMul, Nat.reduceSub, Nat.reduceLeDiff, ↓reduceIte, reduceCtorEq, ↓String.reduceEq, String.reduceNe, Int.reduceToNat, Int.reduceLT, Int.reduceLE, Int.reduceGT, Int.reduceGE, Int.reduceEq, Int.reduceNe, Int.reduceBEq, Int.reduceBNe, Int.reduceAdd, Int.reduceSub, Int.reduceMul, Int.reduceNeg,  *]))
                exact Again.intro ⟨0, by decide, _, Sub.refl _, (by first | (simp only [upd, put, Nat.reduceEqDiff, ↓reduceIte, t0]; done) | (simp [upd, put, t0]; done) | rfl | (simp [upd, put, t0]; rfl)), (by first | (simp only [upd, put, Nat.reduceEqDiff, ↓reduceIte, t3]; done) | (simp [upd, put, t3]; done) | rfl | (simp [upd, put, t3]; rfl)), (by first | (simp only [upd, put, Nat.reduceEqDiff, ↓reduceIte, t5]; done) | (simp [upd, put, t5]; done) | rfl | (simp [upd, put, t5]; rfl)), (by first | (simp only [upd, put, Nat.reduceEqDiff, ↓reduceIte, t50]; done) | (simp [upd, put, t50]; done) | rfl | (simp [upd, put, t50]; rfl)), .inr (.inr ⟨rfl, rfl, ttt⟩)⟩
              · repeat' (first | exact tf0 ‹_› | exact tf1 ‹_› | exact False.elim ‹_› | (with_reducible refine Al.intro ?_; intro pb hpb; (try simp only [hupd_none'] at hpb); (repeat rcases hpb with ⟨⟨hpx, hpy⟩, hpb⟩)) | with_reducible refine need ?_ | ((with_reducible first | apply frk0 | apply frk1 | apply frk2 | apply frk3 | apply frk4 | apply frk5 | apply frk6 | apply frk7 | apply frk8 | apply frk9) <;> intro h <;> try (exfalso; omega)) | with_reducible refine quiet_and ?_ ?_ | with_reducible refine awp_drawnA mixed (by decide +kernel) ?_ | ((fail_if_success with_reducible refine stp ?_); simp -implicitDefEqProofs only [go_sem, Nat.reduceEqDiff, Nat.reduceAdd, Nat.reduceLT, Nat.reduceMul, Nat.reduceSub, Nat.reduceLeDiff, ↓reduceIte, reduceCtorEq, ↓String.reduceEq, String.reduceNe, Int.reduceToNat, Int.reduceLT, Int.reduceLE, Int.reduceGT, Int.reduceGE, Int.reduceEq, Int.reduceNe, Int.reduceBEq, Int.reduceBNe, Int.reduceAdd, Int.reduceSub, Int.reduceMul, Int.reduceNeg,  *]))
                exact Again.intro ⟨rfl, (by first | (simp only [upd, put, Nat.reduceEqDiff, ↓reduceIte, t0]; done) | (simp [upd, put, t0]; done) | rfl | (simp [upd, put, t0]; rfl)), (by first | (simp only [upd, put, Nat.reduceEqDiff, ↓reduceIte, t3]; done) | (simp [upd, put, t3]; done) | rfl | (simp [upd, put, t3]; rfl)), (by first | (simp only [upd, put, Nat.reduceEqDiff, ↓reduceIte, t5]; done) | (simp [upd, put, t5]; done) | rfl | (simp [upd, put, t5]; rfl))⟩
            · rintro ts m' ⟨hm', t0, t3, t5⟩
              rw [hm']
              clear hm'
              obtain ⟨M2, hM2, l3, l5, ltb, lfm⟩ := HM2.out
              rw [← hM2]
              have hput := HPUT.out
              simp only at hput
              have HM2b := Hid.mk hM2
              have n5f : p5 ≠ fm := Ne.symm (seenB HB.out.2.2.1 HPB.out)
              have nf5 : fm ≠ p5 := Ne.symm n5f
              obtain ⟨rr, hrr⟩ : ∃ rr, outR rA k (at1 - q2) = rr := ⟨_, rfl⟩
              have HM3 := Hid.mk ltb
              rw [hrr] at ltb
              clear hM2 hrr
              obtain ⟨u1, ⟨z0, z1, z2, z3, z4, z5⟩, uw, ub, us⟩ := rr
              simp only [rowB, rcel, List.cons_append, List.nil_append] at ltb
              have ntf := nx1
              have nft := Ne.symm nx1
              have nt5 : tb ≠ p5 := n5t'
              repeat' (first | exact tf0 ‹_› | exact tf1 ‹_› | exact False.elim ‹_› | (with_reducible refine Al.intro ?_; intro pb hpb; (try simp only [hupd_none'] at hpb); (repeat rcases hpb with ⟨⟨hpx, hpy⟩, hpb⟩)) | with_reducible refine need ?_ | ((with_reducible first | apply frk0 | apply frk1 | apply frk2 | apply frk3 | apply frk4 | apply frk5 | apply frk6 | apply frk7 | apply frk8 | apply frk9) <;> intro h <;> try (exfalso; omega)) | with_reducible refine quiet_and ?_ ?_ | with_reducible refine awp_drawnA mixed (by decide +kernel) ?_ | ((fail_if_success with_reducible refine stp ?_); simp -implicitDefEqProofs only [go_sem, Nat.reduceEqDiff, Nat.reduceAdd, Nat.reduceLT, Nat.reduceMul, Nat.reduceSub, Nat.reduceLeDiff, ↓reduceIte, reduceCtorEq, ↓String.reduceEq, String.reduceNe, Int.reduceToNat, Int.reduceLT, Int.reduceLE, Int.reduceGT, Int.reduceGE, Int.reduceEq, Int.reduceNe, Int.reduceBEq, Int.reduceBNe, Int.reduceAdd, Int.reduceSub, Int.reduceMul, Int.reduceNeg,  *]))
              have f1 : ∀ (y1 y2 : ABlk), hupd (hupd M2 p5 y1) fm y2 fm = some y2 := fun y1 y2 => by rw [hupd_at, if_pos rfl]
              have f2 : ∀ (c : Nat) (y1 y2 : ABlk), c ≠ fm → c ≠ p5 → hupd (hupd M2 p5 y1) fm y2 c = M2 c := fun c y1 y2 h1 h2 => by rw [hupd_ne h1, hupd_ne h2]
              refine ⟨_, Sub.refl _, ?_⟩
              have f3 := f1 (.cells [.int .i64 q0, .int .i64 q1, .int .i64 q2, .int .i64 q3, .int .i64 k] 5) (.map (frsE (L.set i (xt, (q0, q1, q2, q3), k, at1))) bsF clF)
              have f4 := fun c => f2 c (.cells [.int .i64 q0, .int .i64 q1, .int .i64 q2, .int .i64 q3, .int .i64 k] 5) (.map (frsE (L.set i (xt, (q0, q1, q2, q3), k, at1))) bsF clF)
              generalize hMF : hupd (hupd M2 p5 _) fm _ = MF at f3 f4 ⊢
              have e1 : (fateF L xt k at1).1 = 0 := by rw [HT.out]
              have e2 : (fateF L xt k at1).2 = L.set i (xt, (q0, q1, q2, q3), k, at1) := by rw [HT.out]
              obtain ⟨key2, kf2, hrA, kt2, hrI, kb2, kr2, hrow, hxq⟩ := HY.out
              have hrep := HK.out.2.1
              have hM2' : ∀ c, c ≠ tb → c ≠ rb q0 → M2 c = M c := fun c h1 h2 => by rw [HM2b.out, hupd_ne h1, hupd_ne h2]
              have hlow : ∀ c, m c ≠ none → c ≠ p5 := fun c h e => h (by rw [e]; exact HPB.out)
              have hall : ∀ c, m c ≠ none → c ≠ fm → c ≠ tb → c ≠ rb q0 → MF c = m c := fun c h h1 h2 h3 => by rw [f4 c h1 (hlow c h), hM2' c h2 h3, key2 c h]
              have hro := fun p hp => HRO.out p rfl hp (by omega)
              have hsuf : Rep ⟨tb, v, rm, fm, rb⟩ C (fateF L xt k at1).2 MF ∧ Else ⟨tb, v, rm, fm, rb⟩ C m MF := by
                rw [e2]
                refine ⟨⟨?_, ?_, ?_, ?_, ?_, hrep.inj, hrep.sep, hrep.ne⟩, ?_⟩
                · simp only
                  rw [f4 tb nx1 n5t', HM3.out]
                  have h := hro pAll rfl
                  simp only at h
                  rw [show rowOf pAll (L.set i (xt, (q0, q1, q2, q3), k, at1)) = outR rA k (at1 - q2) from h.trans ((if_pos rfl).trans (by rw [hrA]))]
                · refine hrep.str.keep (fun c hc => ?_)
                  have ho := hrep.v_out hc
                  exact hall c (slm_some hrep.str hc) (fun e => ho (.inr (.inr (.inl e)))) (fun e => ho (.inl e)) (fun e => ho (.inr (.inr (.inr ⟨s1, HS.out.1, by simp only; rw [hxq]; exact e⟩))))
                · exact ⟨bsR, clR, (hall rm (by rw [HB.out.2.1]; simp) nx3 (Ne.symm nx2) (Ne.symm HNR.out.2.1)).trans HB.out.2.1⟩
                · intro s hs
                  have hns := hrep.ne_rb hs
                  have hro2 := hrep.row s hs
                  simp only at hns hro2 ⊢
                  have h := hro (pId s.1) rfl
                  simp only at h
                  by_cases e : s.1 = q0
                  · rw [e] at h ⊢
                    rw [f4 _ HNR.out.2.2 n5b', HM2b.out, hupd_ne HNR.out.1, hupd_at, if_pos rfl]
                    rw [h, if_pos (by unfold pId; simp), hrI]
                  · have hb3 : rb s.1 ≠ rb q0 := fun e2 => e ((hrep.inj s hs s1 HS.out.1 (by simp only; rw [hxq]; exact e2)).trans hxq)
                    rw [hall _ (by rw [hro2]; simp) hns.2.2 hns.1 hb3, hro2, h, if_neg (by unfold pId; simp only [decide_eq_true_eq]; exact fun h => e h.symm)]
                · exact ⟨bsF, clF, f3, HB.out.2.2.2.1, HB.out.2.2.2.2.1, by rw [List.length_set]; exact HB.out.2.2.2.2.2⟩
                · intro c hc ho
                  exact hall c hc (fun e => ho (.inr (.inr (.inl e)))) (fun e => ho (.inl e)) (fun e => ho (.inr (.inr (.inr ⟨s1, HS.out.1, by simp only; rw [hxq]; exact e⟩))))
              have hg := HK.out.1 MF hsuf.1 hsuf.2
              rw [e1] at hg
              exact hg
          · have hkb : (k == 1) = false := by simpa using hk1'
            have HK1 := Hid.mk hk1'
            clear hk1'
            repeat' (first | exact tf0 ‹_› | exact tf1 ‹_› | exact False.elim ‹_› | (with_reducible refine Al.intro ?_; intro pb hpb; (try simp only [hupd_none'] at hpb); (repeat rcases hpb with ⟨⟨hpx, hpy⟩, hpb⟩)) | with_reducible refine need ?_ | ((with_reducible first | apply frk0 | apply frk1 | apply frk2 | apply frk3 | apply frk4 | apply frk5 | apply frk6 | apply frk7 | apply frk8 | apply frk9) <;> intro h <;> try (exfalso; omega)) | with_reducible refine quiet_and ?_ ?_ | with_reducible refine awp_drawnA mixed (by decide +kernel) ?_ | ((fail_if_success with_reducible refine stp ?_); simp -implicitDefEqProofs only [go_sem, Nat.reduceEqDiff, Nat.reduceAdd, Nat.reduceLT, Nat.reduceMul, Nat.reduceSub, Nat.reduceLeDiff, ↓reduceIte, reduceCtorEq, ↓String.reduceEq, String.reduceNe, Int.reduceToNat, Int.reduceLT, Int.reduceLE, Int.reduceGT, Int.reduceGE, Int.reduceEq, Int.reduceNe, Int.reduceBEq, Int.reduceBNe, Int.reduceAdd, Int.reduceSub, Int.reduceMul, Int.reduceNeg,  *]))
            refine awp_loopP 1 (fun ts m' => m' = (hupd (hupd M (rb q0) (rowA q0 (outR rI k (at1 - q2)))) tb (rowB v rm fm (-1) (outR rA k (at1 - q2)))) ∧ ts 0 = .ptr tb 0 ∧ ts 3 = .ptr p3 0 ∧ ts 5 = .ptr p5 0)
              (fun n ts m' => ts 0 = .ptr tb 0 ∧ ts 3 = .ptr p3 0 ∧ ts 5 = .ptr p5 0 ∧ ts 50 = .agg [.ptr (rb q0) 0, .ptr tb 2] ∧ ((n = 2 ∧ m' = M ∧ ts 51 = .int .i64 0) ∨ (n = 1 ∧ m' = hupd M (rb q0) (rowA q0 (outR rI k (at1 - q2))) ∧ ts 51 = .int .i64 1) ∨ (n = 0 ∧ m' = (hupd (hupd M (rb q0) (rowA q0 (outR rI k (at1 - q2)))) tb (rowB v rm fm (-1) (outR rA k (at1 - q2)))) ∧ ts 51 = .int .i64 2))) 2
              ⟨ttt, ttt, ttt, ttt, .inl ⟨rfl, rfl, ttt⟩⟩ ?_ ?_
            · have w2 : IntKind.i64.wrap 1 = 1 := by decide
              have w3 : IntKind.i64.wrap 2 = 2 := by decide
              rintro n ts m' ⟨t0, t3, t5, t50, ⟨rfl, hm, t51⟩ | ⟨rfl, hm, t51⟩ | ⟨rfl, hm, t51⟩⟩ <;> rw [hm] <;> clear hm
              · repeat' (first | exact tf0 ‹_› | exact tf1 ‹_› | exact False.elim ‹_› | (with_reducible refine Al.intro ?_; intro pb hpb; (try simp only [hupd_none'] at hpb); (repeat rcases hpb with ⟨⟨hpx, hpy⟩, hpb⟩)) | with_reducible refine need ?_ | ((with_reducible first | apply frk0 | apply frk1 | apply frk2 | apply frk3 | apply frk4 | apply frk5 | apply frk6 | apply frk7 | apply frk8 | apply frk9) <;> intro h <;> try (exfalso; omega)) | with_reducible refine quiet_and ?_ ?_ | with_reducible refine awp_drawnA mixed (by decide +kernel) ?_ | ((fail_if_success with_reducible refine stp ?_); simp -implicitDefEqProofs only [go_sem, Nat.reduceEqDiff, Nat.reduceAdd, Nat.reduceLT, Nat.reduceMul, Nat.reduceSub, Nat.reduceLeDiff, ↓reduceIte, reduceCtorEq, ↓String.reduceEq, String.reduceNe, Int.reduceToNat, Int.reduceLT, Int.reduceLE, Int.reduceGT, Int.reduceGE, Int.reduceEq, Int.reduceNe, Int.reduceBEq, Int.reduceBNe, Int.reduceAdd, Int.reduceSub, Int.reduceMul, Int.reduceNeg,  *]))
                refine (tI.out M (.inl ⟨rfl, HY.out.2.2.2.2.2.1⟩)).mono ?_
                rintro w m2 ⟨rfl, rfl⟩
                rw [if_pos rfl]
                repeat' (first | exact tf0 ‹_› | exact tf1 ‹_› | exact False.elim ‹_› | (with_reducible refine Al.intro ?_; intro pb hpb; (try simp only [hupd_none'] at hpb); (repeat rcases hpb with ⟨⟨hpx, hpy⟩, hpb⟩)) | with_reducible refine need ?_ | ((with_reducible first | apply frk0 | apply frk1 | apply frk2 | apply frk3 | apply frk4 | apply frk5 | apply frk6 | apply frk7 | apply frk8 | apply frk9) <;> intro h <;> try (exfalso; omega)) | with_reducible refine quiet_and ?_ ?_ | with_reducible refine awp_drawnA mixed (by decide +kernel) ?_ | ((fail_if_success with_reducible refine stp ?_); simp -implicitDefEqProofs only [go_sem, Nat.reduceEqDiff, Nat.reduceAdd, Nat.reduceLT, Nat.reduceMul, Nat.reduceSub, Nat.reduceLeDiff, ↓reduceIte, reduceCtorEq, ↓String.reduceEq, String.reduceNe, Int.reduceToNat, Int.reduceLT, Int.reduceLE, Int.reduceGT, Int.reduceGE, Int.reduceEq, Int.reduceNe, Int.reduceBEq, Int.reduceBNe, Int.reduceAdd, Int.reduceSub, Int.reduceMul, Int.reduceNeg,  *]))
                rw [show turnR rI k = outR rI k (at1 - q2) by unfold outR; rw [if_neg HK1.out]]
                repeat' (first | exact tf0 ‹_› | exact tf1 ‹_› | exact False.elim ‹_› | (with_reducible refine Al.intro ?_; intro pb hpb; (try simp only [hupd_none'] at hpb); (repeat rcases hpb with ⟨⟨hpx, hpy⟩, hpb⟩)) | with_reducible refine need ?_ | ((with_reducible first | apply frk0 | apply frk1 | apply frk2 | apply frk3 | apply frk4 | apply frk5 | apply frk6 | apply frk7 | apply frk8 | apply frk9) <;> intro h <;> try (exfalso; omega)) | with_reducible refine quiet_and ?_ ?_ | with_reducible refine awp_drawnA mixed (by decide +kernel) ?_ | ((fail_if_success with_reducible refine stp ?_); simp -implicitDefEqProofs only [go_sem, Nat.reduceEqDiff, Nat.reduceAdd, Nat.reduceLT, Nat.reduceMul, Nat.reduceSub, Nat.reduceLeDiff, ↓reduceIte, reduceCtorEq, ↓String.reduceEq, String.reduceNe, Int.reduceToNat, Int.reduceLT, Int.reduceLE, Int.reduceGT, Int.reduceGE, Int.reduceEq, Int.reduceNe, Int.reduceBEq, Int.reduceBNe, Int.reduceAdd, Int.reduceSub, Int.reduceMul, Int.reduceNeg,  *]))
                exact Again.intro ⟨1, by decide, _, Sub.refl _, (by first | (simp only [upd, put, Nat.reduceEqDiff, ↓reduceIte, t0]; done) | (simp [upd, put, t0]; done) | rfl | (simp [upd, put, t0]; rfl)), (by first | (simp only [upd, put, Nat.reduceEqDiff, ↓reduceIte, t3]; done) | (simp [upd, put, t3]; done) | rfl | (simp [upd, put, t3]; rfl)), (by first | (simp only [upd, put, Nat.reduceEqDiff, ↓reduceIte, t5]; done) | (simp [upd, put, t5]; done) | rfl | (simp [upd, put, t5]; rfl)), (by first | (simp only [upd, put, Nat.reduceEqDiff, ↓reduceIte, t50]; done) | (simp [upd, put, t50]; done) | rfl | (simp [upd, put, t50]; rfl)), .inr (.inl ⟨rfl, rfl, ttt⟩)⟩
              · repeat' (first | exact tf0 ‹_› | exact tf1 ‹_› | exact False.elim ‹_› | (with_reducible refine Al.intro ?_; intro pb hpb; (try simp only [hupd_none'] at hpb); (repeat rcases hpb with ⟨⟨hpx, hpy⟩, hpb⟩)) | with_reducible refine need ?_ | ((with_reducible first | apply frk0 | apply frk1 | apply frk2 | apply frk3 | apply frk4 | apply frk5 | apply frk6 | apply frk7 | apply frk8 | apply frk9) <;> intro h <;> try (exfalso; omega)) | with_reducible refine quiet_and ?_ ?_ | with_reducible refine awp_drawnA mixed (by decide +kernel) ?_ | ((fail_if_success with_reducible refine stp ?_); simp -implicitDefEqProofs only [go_sem, Nat.reduceEqDiff, Nat.reduceAdd, Nat.reduceLT, Nat.reduceMul, Nat.reduceSub, Nat.reduceLeDiff, ↓reduceIte, reduceCtorEq, ↓String.reduceEq, String.reduceNe, Int.reduceToNat, Int.reduceLT, Int.reduceLE, Int.reduceGT, Int.reduceGE, Int.reduceEq, Int.reduceNe, Int.reduceBEq, Int.reduceBNe, Int.reduceAdd, Int.reduceSub, Int.reduceMul, Int.reduceNeg,  *]))
                refine (tA.out (hupd M (rb q0) (rowA q0 (outR rI k (at1 - q2)))) (.inr ⟨rfl, by rw [hupd_ne (Ne.symm HNR.out.1)]; exact HY.out.2.2.2.1⟩)).mono ?_
                rintro w m2 ⟨rfl, rfl⟩
                rw [if_neg (by decide)]
                repeat' (first | exact tf0 ‹_› | exact tf1 ‹_› | exact False.elim ‹_› | (with_reducible refine Al.intro ?_; intro pb hpb; (try simp only [hupd_none'] at hpb); (repeat rcases hpb with ⟨⟨hpx, hpy⟩, hpb⟩)) | with_reducible refine need ?_ | ((with_reducible first | apply frk0 | apply frk1 | apply frk2 | apply frk3 | apply frk4 | apply frk5 | apply frk6 | apply frk7 | apply frk8 | apply frk9) <;> intro h <;> try (exfalso; omega)) | with_reducible refine quiet_and ?_ ?_ | with_reducible refine awp_drawnA mixed (by decide +kernel) ?_ | ((fail_if_success with_reducible refine stp ?_); simp -implicitDefEqProofs only [go_sem, Nat.reduceEqDiff, Nat.reduceAdd, Nat.reduceLT, Nat.reduceMul, Nat.reduceSub, Nat.reduceLeDiff, ↓reduceIte, reduceCtorEq, ↓String.reduceEq, String.reduceNe, Int.reduceToNat, Int.reduceLT, Int.reduceLE, Int.reduceGT, Int.reduceGE, Int.reduceEq, Int.reduceNe, Int.reduceBEq, Int.reduceBNe, Int.reduceAdd, Int.reduceSub, Int.reduceMul, Int.reduceNeg,  *]))
                rw [show turnR rA k = outR rA k (at1 - q2) by unfold outR; rw [if_neg HK1.out]]
                repeat' (first | exact tf0 ‹_› | exact tf1 ‹_› | exact False.elim ‹_› | (with_reducible refine Al.intro ?_; intro pb hpb; (try simp only [hupd_none'] at hpb); (repeat rcases hpb with ⟨⟨hpx, hpy⟩, hpb⟩)) | with_reducible refine need ?_ | ((with_reducible first | apply frk0 | apply frk1 | apply frk2 | apply frk3 | apply frk4 | apply frk5 | apply frk6 | apply frk7 | apply frk8 | apply frk9) <;> intro h <;> try (exfalso; omega)) | with_reducible refine quiet_and ?_ ?_ | with_reducible refine awp_drawnA mixed (by decide +kernel) ?_ | ((fail_if_success with_reducible refine stp ?_); simp -implicitDefEqProofs only [go_sem, Nat.reduceEqDiff, Nat.reduceAdd, Nat.reduceLT, Nat.reduceMul, Nat.reduceSub, Nat.reduceLeDiff, ↓reduceIte, reduceCtorEq, ↓String.reduceEq, String.reduceNe, Int.reduceToNat, Int.reduceLT, Int.reduceLE, Int.reduceGT, Int.reduceGE, Int.reduceEq, Int.reduceNe, Int.reduceBEq, Int.reduceBNe, Int.reduceAdd, Int.reduceSub, Int.reduceMul, Int.reduceNeg,  *]))
                exact Again.intro ⟨0, by decide, _, Sub.refl _, (by first | (simp only [upd, put, Nat.reduceEqDiff, ↓reduceIte, t0]; done) | (simp [upd, put, t0]; done) | rfl | (simp [upd, put, t0]; rfl)), (by first | (simp only [upd, put, Nat.reduceEqDiff, ↓reduceIte, t3]; done) | (simp [upd, put, t3]; done) | rfl | (simp [upd, put, t3]; rfl)), (by first | (simp only [upd, put, Nat.reduceEqDiff, ↓reduceIte, t5]; done) | (simp [upd, put, t5]; done) | rfl | (simp [upd, put, t5]; rfl)), (by first | (simp only [upd, put, Nat.reduceEqDiff, ↓reduceIte, t50]; done) | (simp [upd, put, t50]; done) | rfl | (simp [upd, put, t50]; rfl)), .inr (.inr ⟨rfl, rfl, ttt⟩)⟩
              · repeat' (first | exact tf0 ‹_› | exact tf1 ‹_› | exact False.elim ‹_› | (with_reducible refine Al.intro ?_; intro pb hpb; (try simp only [hupd_none'] at hpb); (repeat rcases hpb with ⟨⟨hpx, hpy⟩, hpb⟩)) | with_reducible refine need ?_ | ((with_reducible first | apply frk0 | apply frk1 | apply frk2 | apply frk3 | apply frk4 | apply frk5 | apply frk6 | apply frk7 | apply frk8 | apply frk9) <;> intro h <;> try (exfalso; omega)) | with_reducible refine quiet_and ?_ ?_ | with_reducible refine awp_drawnA mixed (by decide +kernel) ?_ | ((fail_if_success with_reducible refine stp ?_); simp -implicitDefEqProofs only [go_sem, Nat.reduceEqDiff, Nat.reduceAdd, Nat.reduceLT, Nat.reduceMul, Nat.reduceSub, Nat.reduceLeDiff, ↓reduceIte, reduceCtorEq, ↓String.reduceEq, String.reduceNe, Int.reduceToNat, Int.reduceLT, Int.reduceLE, Int.reduceGT, Int.reduceGE, Int.reduceEq, Int.reduceNe, Int.reduceBEq, Int.reduceBNe, Int.reduceAdd, Int.reduceSub, Int.reduceMul, Int.reduceNeg,  *]))
                exact Again.intro ⟨rfl, (by first | (simp only [upd, put, Nat.reduceEqDiff, ↓reduceIte, t0]; done) | (simp [upd, put, t0]; done) | rfl | (simp [upd, put, t0]; rfl)), (by first | (simp only [upd, put, Nat.reduceEqDiff, ↓reduceIte, t3]; done) | (simp [upd, put, t3]; done) | rfl | (simp [upd, put, t3]; rfl)), (by first | (simp only [upd, put, Nat.reduceEqDiff, ↓reduceIte, t5]; done) | (simp [upd, put, t5]; done) | rfl | (simp [upd, put, t5]; rfl))⟩
            · rintro ts m' ⟨hm', t0, t3, t5⟩
              rw [hm']
              clear hm'
              obtain ⟨M2, hM2, l3, l5, ltb, lfm⟩ := HM2.out
              rw [← hM2]
              have hput := HPUT.out
              simp only at hput
              have HM2b := Hid.mk hM2
              have n5f : p5 ≠ fm := Ne.symm (seenB HB.out.2.2.1 HPB.out)
              have nf5 : fm ≠ p5 := Ne.symm n5f
              obtain ⟨rr, hrr⟩ : ∃ rr, outR rA k (at1 - q2) = rr := ⟨_, rfl⟩
              have HM3 := Hid.mk ltb
              rw [hrr] at ltb
              clear hM2 hrr
              obtain ⟨u1, ⟨z0, z1, z2, z3, z4, z5⟩, uw, ub, us⟩ := rr
              simp only [rowB, rcel, List.cons_append, List.nil_append] at ltb
              have ntf := nx1
              have nft := Ne.symm nx1
              have nt5 : tb ≠ p5 := n5t'
              repeat' (first | exact tf0 ‹_› | exact tf1 ‹_› | exact False.elim ‹_› | (with_reducible refine Al.intro ?_; intro pb hpb; (try simp only [hupd_none'] at hpb); (repeat rcases hpb with ⟨⟨hpx, hpy⟩, hpb⟩)) | with_reducible refine need ?_ | ((with_reducible first | apply frk0 | apply frk1 | apply frk2 | apply frk3 | apply frk4 | apply frk5 | apply frk6 | apply frk7 | apply frk8 | apply frk9) <;> intro h <;> try (exfalso; omega)) | with_reducible refine quiet_and ?_ ?_ | with_reducible refine awp_drawnA mixed (by decide +kernel) ?_ | ((fail_if_success with_reducible refine stp ?_); simp -implicitDefEqProofs only [go_sem, Nat.reduceEqDiff, Nat.reduceAdd, Nat.reduceLT, Nat.reduceMul, Nat.reduceSub, Nat.reduceLeDiff, ↓reduceIte, reduceCtorEq, ↓String.reduceEq, String.reduceNe, Int.reduceToNat, Int.reduceLT, Int.reduceLE, Int.reduceGT, Int.reduceGE, Int.reduceEq, Int.reduceNe, Int.reduceBEq, Int.reduceBNe, Int.reduceAdd, Int.reduceSub, Int.reduceMul, Int.reduceNeg,  *]))
              have f1 : ∀ (y1 y2 : ABlk), hupd (hupd M2 p5 y1) fm y2 fm = some y2 := fun y1 y2 => by rw [hupd_at, if_pos rfl]
              have f2 : ∀ (c : Nat) (y1 y2 : ABlk), c ≠ fm → c ≠ p5 → hupd (hupd M2 p5 y1) fm y2 c = M2 c := fun c y1 y2 h1 h2 => by rw [hupd_ne h1, hupd_ne h2]
              refine ⟨_, Sub.refl _, ?_⟩
              have f3 := f1 (.cells [.int .i64 q0, .int .i64 q1, .int .i64 q2, .int .i64 q3, .int .i64 k] 5) (.map (frsE (L.set i (xt, (q0, q1, q2, q3), k, at1))) bsF clF)
              have f4 := fun c => f2 c (.cells [.int .i64 q0, .int .i64 q1, .int .i64 q2, .int .i64 q3, .int .i64 k] 5) (.map (frsE (L.set i (xt, (q0, q1, q2, q3), k, at1))) bsF clF)
              generalize hMF : hupd (hupd M2 p5 _) fm _ = MF at f3 f4 ⊢
              have e1 : (fateF L xt k at1).1 = 0 := by rw [HT.out]
              have e2 : (fateF L xt k at1).2 = L.set i (xt, (q0, q1, q2, q3), k, at1) := by rw [HT.out]
              obtain ⟨key2, kf2, hrA, kt2, hrI, kb2, kr2, hrow, hxq⟩ := HY.out
              have hrep := HK.out.2.1
              have hM2' : ∀ c, c ≠ tb → c ≠ rb q0 → M2 c = M c := fun c h1 h2 => by rw [HM2b.out, hupd_ne h1, hupd_ne h2]
              have hlow : ∀ c, m c ≠ none → c ≠ p5 := fun c h e => h (by rw [e]; exact HPB.out)
              have hall : ∀ c, m c ≠ none → c ≠ fm → c ≠ tb → c ≠ rb q0 → MF c = m c := fun c h h1 h2 h3 => by rw [f4 c h1 (hlow c h), hM2' c h2 h3, key2 c h]
              have hro := fun p hp => HRO.out p rfl hp (by omega)
              have hsuf : Rep ⟨tb, v, rm, fm, rb⟩ C (fateF L xt k at1).2 MF ∧ Else ⟨tb, v, rm, fm, rb⟩ C m MF := by
                rw [e2]
                refine ⟨⟨?_, ?_, ?_, ?_, ?_, hrep.inj, hrep.sep, hrep.ne⟩, ?_⟩
                · simp only
                  rw [f4 tb nx1 n5t', HM3.out]
                  have h := hro pAll rfl
                  simp only at h
                  rw [show rowOf pAll (L.set i (xt, (q0, q1, q2, q3), k, at1)) = outR rA k (at1 - q2) from h.trans ((if_pos rfl).trans (by rw [hrA]))]
                · refine hrep.str.keep (fun c hc => ?_)
                  have ho := hrep.v_out hc
                  exact hall c (slm_some hrep.str hc) (fun e => ho (.inr (.inr (.inl e)))) (fun e => ho (.inl e)) (fun e => ho (.inr (.inr (.inr ⟨s1, HS.out.1, by simp only; rw [hxq]; exact e⟩))))
                · exact ⟨bsR, clR, (hall rm (by rw [HB.out.2.1]; simp) nx3 (Ne.symm nx2) (Ne.symm HNR.out.2.1)).trans HB.out.2.1⟩
                · intro s hs
                  have hns := hrep.ne_rb hs
                  have hro2 := hrep.row s hs
                  simp only at hns hro2 ⊢
                  have h := hro (pId s.1) rfl
                  simp only at h
                  by_cases e : s.1 = q0
                  · rw [e] at h ⊢
                    rw [f4 _ HNR.out.2.2 n5b', HM2b.out, hupd_ne HNR.out.1, hupd_at, if_pos rfl]
                    rw [h, if_pos (by unfold pId; simp), hrI]
                  · have hb3 : rb s.1 ≠ rb q0 := fun e2 => e ((hrep.inj s hs s1 HS.out.1 (by simp only; rw [hxq]; exact e2)).trans hxq)
                    rw [hall _ (by rw [hro2]; simp) hns.2.2 hns.1 hb3, hro2, h, if_neg (by unfold pId; simp only [decide_eq_true_eq]; exact fun h => e h.symm)]
                · exact ⟨bsF, clF, f3, HB.out.2.2.2.1, HB.out.2.2.2.2.1, by rw [List.length_set]; exact HB.out.2.2.2.2.2⟩
                · intro c hc ho
                  exact hall c hc (fun e => ho (.inr (.inr (.inl e)))) (fun e => ho (.inl e)) (fun e => ho (.inr (.inr (.inr ⟨s1, HS.out.1, by simp only; rw [hxq]; exact e⟩))))
              have hg := HK.out.1 MF hsuf.1 hsuf.2
              rw [e1] at hg
              exact hg
      · have HT := Hid.mk (hF.trans (if_pos hxf))
        have hxb : (xf != 0) = true := by simpa using hxf
        clear hF hset hro hxf
        refine callWP_body Tryz.func11 rfl (N := 82) rfl (rs := [.tmp 4]) rfl en_11 (of_decide_eq_true rfl) ?_
        repeat' (first | exact tf0 ‹_› | exact tf1 ‹_› | exact False.elim ‹_› | (with_reducible refine Al.intro ?_; intro pb hpb; (try simp only [hupd_none'] at hpb); (repeat rcases hpb with ⟨⟨hpx, hpy⟩, hpb⟩)) | with_reducible refine need ?_ | ((with_reducible first | apply frk0 | apply frk1 | apply frk2 | apply frk3 | apply frk4 | apply frk5 | apply frk6 | apply frk7 | apply frk8 | apply frk9) <;> intro h <;> try (exfalso; omega)) | with_reducible refine quiet_and ?_ ?_ | with_reducible refine awp_drawnA mixed (by decide +kernel) ?_ | ((fail_if_success with_reducible refine stp ?_); simp -implicitDefEqProofs only [go_sem, Nat.reduceEqDiff, Nat.reduceAdd, Nat.reduceLT, Nat.reduceMul, Nat.reduceSub, Nat.reduceLeDiff, ↓reduceIte, reduceCtorEq, ↓String.reduceEq, String.reduceNe, Int.reduceToNat, Int.reduceLT, Int.reduceLE, Int.reduceGT, Int.reduceGE, Int.reduceEq, Int.reduceNe, Int.reduceBEq, Int.reduceBNe, Int.reduceAdd, Int.reduceSub, Int.reduceMul, Int.reduceNeg,  *]))
        exact ⟨m, (by (repeat refine Sub.fresh ?_ (by assumption)); exact Sub.refl _), fin.out _ HT.out⟩
end Go.Proofs.YtdckcophbmnjjaaGreatDoor
namespace Go.Proofs.YtdckcophbmnjjaaGreatDoor
open Go Go.Proofs.YtdckcophbmnjjaaGreatDoor.Ab
open Go.Proofs (Tryz.prog)
set_option maxRecDepth 100000
/-- A row, told. -/
def rowVal (id : Int) (r : RowT) : AVal := .agg [.int .i64 id, .int .i64 r.1, .int .i64 r.2.1.1, .int .i64 r.2.1.2.1, .int .i64 r.2.1.2.2.1, .int .i64 r.2.1.2.2.2.1, .int .i64 r.2.1.2.2.2.2.1, .int .i64 r.2.1.2.2.2.2.2, .int .i64 r.2.2.1, .int .i64 r.2.2.2.1]
set_option maxHeartbeats 1000000 in
theorem total_spec (G : Nat → AVal) (T : Tab) (C : List Stm) (L : List Ntd) (m : Heap) (hr : Rep T C L m) : CallWP Tryz.prog G 24 [.ptr T.tb 0] m fun w m' => w = rowVal (-1) (rowOf pAll L) ∧ m' = m := by
  obtain ⟨tb, v, rm, fm, rb⟩ := T
  have ktb := hr.tab
  simp only at ktb
  generalize rowOf pAll L = r0 at *
  obtain ⟨tk, ⟨f0, f1, f2, f3, f4, f5⟩, wo, be, so⟩ := r0
  simp only [rowB, rcel, List.cons_append, List.nil_append] at ktb
  have frt : ∀ c, m c = none → (tb = c) = False := fun c h => by rw [eq_iff_iff, iff_false]; exact seenB ktb h
  clear hr
  refine callWP_body Tryz.func24 rfl (N := 11) rfl (rs := [.cell 2 56]) rfl en_24 (of_decide_eq_true rfl) ?_
  repeat' (first | exact tf0 ‹_› | exact tf1 ‹_› | exact False.elim ‹_› | (with_reducible refine Al.intro ?_; intro pb hpb; (try simp only [hupd_none'] at hpb); (repeat rcases hpb with ⟨⟨hpx, hpy⟩, hpb⟩)) | with_reducible refine need ?_ | ((with_reducible first | apply frk0 | apply frk1 | apply frk2 | apply frk3 | apply frk4 | apply frk5 | apply frk6 | apply frk7 | apply frk8 | apply frk9) <;> intro h <;> try (exfalso; omega)) | with_reducible refine quiet_and ?_ ?_ | with_reducible refine awp_drawnA mixed (by decide +kernel) ?_ | ((fail_if_success with_reducible refine stp ?_); simp -implicitDefEqProofs only [go_sem, Nat.reduceEqDiff, Nat.reduceAdd, Nat.reduceLT, Nat.reduceMul, Nat.reduceSub, Nat.reduceLeDiff, ↓reduceIte, reduceCtorEq, ↓String.reduceEq, String.reduceNe, Int.reduceToNat, Int.reduceLT, Int.reduceLE, Int.reduceGT, Int.reduceGE, Int.reduceEq, Int.reduceNe, Int.reduceBEq, Int.reduceBNe, Int.reduceAdd, Int.reduceSub, Int.reduceMul, Int.reduceNeg,  *]))
  exact ⟨m, (by (repeat refine Sub.fresh ?_ (by assumption)); exact Sub.refl _), rfl, rfl⟩
theorem total_nil (G : Nat → AVal) (m : Heap) : CallWP Tryz.prog G 24 [.nilp] m fun w m' => w = rowVal (-1) zeroR ∧ m' = m := by
  refine callWP_body Tryz.func24 rfl (N := 11) rfl (rs := [.cell 2 56]) rfl en_24 (of_decide_eq_true rfl) ?_
  repeat' (first | exact tf0 ‹_› | exact tf1 ‹_› | exact False.elim ‹_› | (with_reducible refine Al.intro ?_; intro pb hpb; (try simp only [hupd_none'] at hpb); (repeat rcases hpb with ⟨⟨hpx, hpy⟩, hpb⟩)) | with_reducible refine need ?_ | ((with_reducible first | apply frk0 | apply frk1 | apply frk2 | apply frk3 | apply frk4 | apply frk5 | apply frk6 | apply frk7 | apply frk8 | apply frk9) <;> intro h <;> try (exfalso; omega)) | with_reducible refine quiet_and ?_ ?_ | with_reducible refine awp_drawnA mixed (by decide +kernel) ?_ | ((fail_if_success with_reducible refine stp ?_); simp -implicitDefEqProofs only [go_sem, Nat.reduceEqDiff, Nat.reduceAdd, Nat.reduceLT, Nat.reduceMul, Nat.reduceSub, Nat.reduceLeDiff, ↓reduceIte, reduceCtorEq, ↓String.reduceEq, String.reduceNe, Int.reduceToNat, Int.reduceLT, Int.reduceLE, Int.reduceGT, Int.reduceGE, Int.reduceEq, Int.reduceNe, Int.reduceBEq, Int.reduceBNe, Int.reduceAdd, Int.reduceSub, Int.reduceMul, Int.reduceNeg,  *]))
  exact ⟨m, (by (repeat refine Sub.fresh ?_ (by assumption)); exact Sub.refl _), rfl, rfl⟩
set_option maxHeartbeats 1000000 in
theorem trow_spec (G : Nat → AVal) (T : Tab) (C : List Stm) (L : List Ntd) (id : Int) (hid : ∃ s ∈ C, s.1 = id) (m : Heap) (hr : Rep T C L m) : CallWP Tryz.prog G 20 [.ptr T.tb 0, .int .i64 id] m fun w m' => w = .tuple [rowVal id (rowOf (pId id) L), .bool true] ∧ m' = m := by
  obtain ⟨tb, v, rm, fm, rb⟩ := T
  have ktb := hr.tab
  obtain ⟨bsR, clR, krm⟩ := hr.rows
  simp only at ktb krm
  have hg := mget_rows (rb := rb) hid
  obtain ⟨s, hs, rfl⟩ := hid
  have krb := hr.row s hs
  simp only at krb
  generalize rowOf pAll L = r0 at *
  obtain ⟨tk, ⟨f0, f1, f2, f3, f4, f5⟩, wo, be, so⟩ := r0
  simp only [rowB, rcel, List.cons_append, List.nil_append] at ktb
  generalize rowOf (pId s.1) L = r1 at *
  obtain ⟨uk, ⟨g0, g1, g2, g3, g4, g5⟩, uo, ue, us⟩ := r1
  simp only [rowA, rcel] at krb
  have frt : ∀ c, m c = none → (tb = c) = False := fun c h => by rw [eq_iff_iff, iff_false]; exact seenB ktb h
  have frr : ∀ c, m c = none → (rm = c) = False := fun c h => by rw [eq_iff_iff, iff_false]; exact seenB krm h
  have frb : ∀ c, m c = none → (rb s.1 = c) = False := fun c h => by rw [eq_iff_iff, iff_false]; exact seenB krb h
  generalize s.1 = id at *
  clear hr hs
  refine callWP_body Tryz.func20 rfl (N := 27) rfl (rs := [.cell 4 56, .tmp 5]) rfl en_20 (of_decide_eq_true rfl) ?_
  repeat' (first | exact tf0 ‹_› | exact tf1 ‹_› | exact False.elim ‹_› | (with_reducible refine Al.intro ?_; intro pb hpb; (try simp only [hupd_none'] at hpb); (repeat rcases hpb with ⟨⟨hpx, hpy⟩, hpb⟩)) | with_reducible refine need ?_ | ((with_reducible first | apply frk0 | apply frk1 | apply frk2 | apply frk3 | apply frk4 | apply frk5 | apply frk6 | apply frk7 | apply frk8 | apply frk9) <;> intro h <;> try (exfalso; omega)) | with_reducible refine quiet_and ?_ ?_ | with_reducible refine awp_drawnA mixed (by decide +kernel) ?_ | ((fail_if_success with_reducible refine stp ?_); simp -implicitDefEqProofs only [go_sem, Nat.reduceEqDiff, Nat.reduceAdd, Nat.reduceLT, Nat.reduceMul, Nat.reduceSub, Nat.reduceLeDiff, ↓reduceIte, reduceCtorEq, ↓String.reduceEq, String.reduceNe, Int.reduceToNat, Int.reduceLT, Int.reduceLE, Int.reduceGT, Int.reduceGE, Int.reduceEq, Int.reduceNe, Int.reduceBEq, Int.reduceBNe, Int.reduceAdd, Int.reduceSub, Int.reduceMul, Int.reduceNeg,  *]))
  exact ⟨m, (by (repeat refine Sub.fresh ?_ (by assumption)); exact Sub.refl _), rfl, rfl⟩
set_option maxHeartbeats 1000000 in
theorem trow_none (G : Nat → AVal) (T : Tab) (C : List Stm) (L : List Ntd) (id : Int) (hid : ∀ s ∈ C, s.1 ≠ id) (m : Heap) (hr : Rep T C L m) : CallWP Tryz.prog G 20 [.ptr T.tb 0, .int .i64 id] m fun w m' => w = .tuple [rowVal 0 zeroR, .bool false] ∧ m' = m := by
  obtain ⟨tb, v, rm, fm, rb⟩ := T
  have ktb := hr.tab
  obtain ⟨bsR, clR, krm⟩ := hr.rows
  simp only at ktb krm
  have hg := mget_rows_none (rb := rb) hid
  generalize rowOf pAll L = r0 at *
  obtain ⟨tk, ⟨f0, f1, f2, f3, f4, f5⟩, wo, be, so⟩ := r0
  simp only [rowB, rcel, List.cons_append, List.nil_append] at ktb
  have frt : ∀ c, m c = none → (tb = c) = False := fun c h => by rw [eq_iff_iff, iff_false]; exact seenB ktb h
  have frr : ∀ c, m c = none → (rm = c) = False := fun c h => by rw [eq_iff_iff, iff_false]; exact seenB krm h
  clear hr hid
  refine callWP_body Tryz.func20 rfl (N := 27) rfl (rs := [.cell 4 56, .tmp 5]) rfl en_20 (of_decide_eq_true rfl) ?_
  repeat' (first | exact tf0 ‹_› | exact tf1 ‹_› | exact False.elim ‹_› | (with_reducible refine Al.intro ?_; intro pb hpb; (try simp only [hupd_none'] at hpb); (repeat rcases hpb with ⟨⟨hpx, hpy⟩, hpb⟩)) | with_reducible refine need ?_ | ((with_reducible first | apply frk0 | apply frk1 | apply frk2 | apply frk3 | apply frk4 | apply frk5 | apply frk6 | apply frk7 | apply frk8 | apply frk9) <;> intro h <;> try (exfalso; omega)) | with_reducible refine quiet_and ?_ ?_ | with_reducible refine awp_drawnA mixed (by decide +kernel) ?_ | ((fail_if_success with_reducible refine stp ?_); simp -implicitDefEqProofs only [go_sem, Nat.reduceEqDiff, Nat.reduceAdd, Nat.reduceLT, Nat.reduceMul, Nat.reduceSub, Nat.reduceLeDiff, ↓reduceIte, reduceCtorEq, ↓String.reduceEq, String.reduceNe, Int.reduceToNat, Int.reduceLT, Int.reduceLE, Int.reduceGT, Int.reduceGE, Int.reduceEq, Int.reduceNe, Int.reduceBEq, Int.reduceBNe, Int.reduceAdd, Int.reduceSub, Int.reduceMul, Int.reduceNeg,  *]))
  exact ⟨m, (by (repeat refine Sub.fresh ?_ (by assumption)); exact Sub.refl _), rfl, rfl⟩
theorem trow_nil (G : Nat → AVal) (id : Int) (m : Heap) : CallWP Tryz.prog G 20 [.nilp, .int .i64 id] m fun w m' => w = .tuple [rowVal 0 zeroR, .bool false] ∧ m' = m := by
  refine callWP_body Tryz.func20 rfl (N := 27) rfl (rs := [.cell 4 56, .tmp 5]) rfl en_20 (of_decide_eq_true rfl) ?_
  repeat' (first | exact tf0 ‹_› | exact tf1 ‹_› | exact False.elim ‹_› | (with_reducible refine Al.intro ?_; intro pb hpb; (try simp only [hupd_none'] at hpb); (repeat rcases hpb with ⟨⟨hpx, hpy⟩, hpb⟩)) | with_reducible refine need ?_ | ((with_reducible first | apply frk0 | apply frk1 | apply frk2 | apply frk3 | apply frk4 | apply frk5 | apply frk6 | apply frk7 | apply frk8 | apply frk9) <;> intro h <;> try (exfalso; omega)) | with_reducible refine quiet_and ?_ ?_ | with_reducible refine awp_drawnA mixed (by decide +kernel) ?_ | ((fail_if_success with_reducible refine stp ?_); simp -implicitDefEqProofs only [go_sem, Nat.reduceEqDiff, Nat.reduceAdd, Nat.reduceLT, Nat.reduceMul, Nat.reduceSub, Nat.reduceLeDiff, ↓reduceIte, reduceCtorEq, ↓String.reduceEq, String.reduceNe, Int.reduceToNat, Int.reduceLT, Int.reduceLE, Int.reduceGT, Int.reduceGE, Int.reduceEq, Int.reduceNe, Int.reduceBEq, Int.reduceBNe, Int.reduceAdd, Int.reduceSub, Int.reduceMul, Int.reduceNeg,  *]))
  exact ⟨m, (by (repeat refine Sub.fresh ?_ (by assumption)); exact Sub.refl _), rfl, rfl⟩
end Go.Proofs.YtdckcophbmnjjaaGreatDoor
