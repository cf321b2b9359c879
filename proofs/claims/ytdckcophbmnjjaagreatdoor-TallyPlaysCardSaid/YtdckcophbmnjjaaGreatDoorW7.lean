/- A frame comes. -/
import Derived.Test.YtdckcophbmnjjaaGreatDoorW6
set_option linter.all false
namespace Go.Proofs.YtdckcophbmnjjaaGreatDoor
open Go Go.Proofs.YtdckcophbmnjjaaGreatDoor.Ab
open Go.Proofs (Tryz.prog)
set_option maxRecDepth 100000
/-- The place of a tag. -/
def tagIdx (L : List Ntd) (tag : Int) : Option Nat := L.findIdx? fun x => x.1 == tag
theorem kidx_frs (L : List Ntd) (tag : Int) : kidx (frsE L) tag = tagIdx L tag := by
  unfold kidx frsE tagIdx
  rw [List.findIdx?_map]; rfl
theorem frs_at {L : List Ntd} {i : Nat} (h : i < L.length) : (frsE L).getD i (0, .undef) = ((L.getD i default).1, frV (L.getD i default)) := by
  simp [frsE, List.getD_eq_getElem?_getD, h]
theorem tagIdx_lt {L : List Ntd} {tag : Int} {i : Nat} (h : tagIdx L tag = some i) : i < L.length ∧ (L.getD i default).1 = tag := by
  rw [← kidx_frs] at h
  obtain ⟨h1, h2⟩ := kidx_some h
  have h1' : i < L.length := by simpa [frsE] using h1
  rw [frs_at h1'] at h2
  exact ⟨h1', h2⟩
theorem mget_frs_some {L : List Ntd} {tag : Int} {i : Nat} (h : tagIdx L tag = some i) : mget (frsE L) tag = some (frV (L.getD i default)) := by
  unfold mget
  rw [kidx_frs, h]
  simp only [Option.map_some]
  rw [frs_at (tagIdx_lt h).1]
theorem mget_frs_none {L : List Ntd} {tag : Int} (h : tagIdx L tag = none) : mget (frsE L) tag = none := by
  unfold mget; rw [kidx_frs, h]; rfl
theorem frs_put {L : List Ntd} {tag : Int} (h : tagIdx L tag = none) (j : Jb) (bs : List Nat) (cl : Nat) : mput (frsE L) bs cl tag (.agg [.int .i64 j.1, .int .i64 j.2.1, .int .i64 j.2.2.1, .int .i64 j.2.2.2, .int .i64 0]) = .map (frsE (L ++ [(tag, j, 0, 0)])) (bs ++ [cl]) (cl + 1) := by
  unfold mput
  rw [kidx_frs, h]
  simp only [frsE, List.map_append]
  rfl
/-- A stream's row is found by its number. -/
theorem mget_rows {C : List Stm} {rb : Int → Nat} {id : Int} (h : ∃ s ∈ C, s.1 = id) : mget (rowsE C rb) id = some (.ptr (rb id) 0) := by
  unfold mget
  cases hk : kidx (rowsE C rb) id with
  | none =>
    obtain ⟨s, hs, rfl⟩ := h
    exact absurd rfl (kidx_none hk _ (List.mem_map_of_mem (f := fun s => (s.1, AVal.ptr (rb s.1) 0)) hs))
  | some i =>
    obtain ⟨h1, h2⟩ := kidx_some hk
    have h1' : i < C.length := by simpa [rowsE] using h1
    have e : (rowsE C rb).getD i (0, .undef) = (C[i].1, .ptr (rb C[i].1) 0) := by simp [rowsE, List.getD_eq_getElem?_getD, h1']
    rw [e] at h2
    simp only [Option.map_some, e]
    simp only at h2
    rw [h2]
theorem mget_rows_none {C : List Stm} {rb : Int → Nat} {id : Int} (h : ∀ s ∈ C, s.1 ≠ id) : mget (rowsE C rb) id = none := by
  unfold mget
  rw [kidx_no (fun e he => by obtain ⟨s, hs, rfl⟩ := List.mem_map.1 he; exact h s hs)]; rfl
theorem findF_cases (C : List Stm) (id : Int) : (findF C id = -1 ∧ ∀ s ∈ C, s.1 ≠ id) ∨ ∃ i : Nat, findF C id = i ∧ i < C.length ∧ (C.getD i default).1 = id := by
  unfold findF
  cases h : C.findIdx? fun s => decide (s.1 = id) with
  | none =>
    left
    rw [List.findIdx?_eq_none_iff] at h
    exact ⟨rfl, fun s hs => by simpa using h s hs⟩
  | some i =>
    right
    rw [List.findIdx?_eq_some_iff_getElem] at h
    obtain ⟨h1, h2, _⟩ := h
    exact ⟨i, rfl, h1, by rw [getD_get h1]; simpa using h2⟩
/-- What a frame that comes meets, and what is there then. -/
def takeF (C : List Stm) (L : List Ntd) (tag : Int) (j : Jb) : Int × List Ntd :=
  if (tagIdx L tag).isSome then (13, L) else
  if findF C j.1 < 0 then (7, L) else
  if (jobS (C.getD (findF C j.1).toNat default) j.2.1).2 ≠ 0 ∨ (jobS (C.getD (findF C j.1).toNat default) j.2.1).1 ≠ j then (10, L) else (0, L ++ [(tag, j, 0, 0)])
set_option maxHeartbeats 4000000 in
theorem take_spec (G : Nat → AVal) (hG : DivOK G) (T : Tab) (C : List Stm) (L : List Ntd) (hC : C.length ≤ 1000) (hL : L.length ≤ 100000) (tag : Int) (j : Jb) (m : Heap) (hr : Rep T C L m) (K : AVal → Heap → Prop)
    (hK : ∀ m', Rep T C (takeF C L tag j).2 m' → Else T C m m' → K (.int .i64 (takeF C L tag j).1) m') : CallWP Tryz.prog G 9 [.ptr T.tb 0, .int .i64 tag, .agg (encJc j)] m K := by
  obtain ⟨tb, v, rm, fm, rb⟩ := T
  obtain ⟨j0, j1, j2, j3⟩ := j
  have HK := Hid.mk (And.intro hK (And.intro hr (And.intro hG (And.intro hC hL))))
  have ktb := hr.tab
  obtain ⟨bsR, clR, krm⟩ := hr.rows
  obtain ⟨bsF, clF, kfm, hbs⟩ := hr.frs
  simp only at ktb krm kfm
  obtain ⟨r0, hr0⟩ : ∃ r, rowOf pAll L = r := ⟨_, rfl⟩
  rw [hr0] at ktb
  have HR0 := Hid.mk hr0
  clear hr0
  obtain ⟨tk, ⟨f0, f1, f2, f3, f4, f5⟩, wo, be, so⟩ := r0
  simp only [rowB, rcel, List.cons_append, List.nil_append] at ktb
  have frt : ∀ c, m c = none → (tb = c) = False := fun c h => by rw [eq_iff_iff, iff_false]; exact seenB ktb h
  have frr : ∀ c, m c = none → (rm = c) = False := fun c h => by rw [eq_iff_iff, iff_false]; exact seenB krm h
  have frf : ∀ c, m c = none → (fm = c) = False := fun c h => by rw [eq_iff_iff, iff_false]; exact seenB kfm h
  have frf2 : ∀ c, m c = none → (c = fm) = False := fun c h => by rw [eq_iff_iff, iff_false]; exact Ne.symm (seenB kfm h)
  have nx1 : tb ≠ fm := hr.ne_tb.2
  have nx2 : tb ≠ rm := hr.ne_tb.1
  have nx3 : rm ≠ fm := hr.ne
  have HB := Hid.mk (And.intro ktb (And.intro krm (And.intro kfm hbs)))
  clear hK hr hG hC hL hbs
  cases ht : tagIdx L tag with
  | some i =>
    have hg := mget_frs_some ht
    obtain ⟨x, hx⟩ : ∃ x, L.getD i default = x := ⟨_, rfl⟩
    rw [hx] at hg
    have HT := Hid.mk (show takeF C L tag (j0, j1, j2, j3) = (13, L) by unfold takeF; rw [ht]; rfl)
    clear ht hx
    refine callWP_body Tryz.func9 rfl (N := 72) rfl (rs := [.tmp 6]) rfl en_9 (of_decide_eq_true rfl) ?_
    repeat' (first | exact tf0 ‹_› | exact tf1 ‹_› | exact False.elim ‹_› | (with_reducible refine Al.intro ?_; intro pb hpb; (try simp only [hupd_none'] at hpb); (repeat rcases hpb with ⟨⟨hpx, hpy⟩, hpb⟩)) | with_reducible refine need ?_ | ((with_reducible first | apply frk0 | apply frk1 | apply frk2 | apply frk3 | apply frk4 | apply frk5 | apply frk6 | apply frk7 | apply frk8 | apply frk9) <;> intro h <;> try (exfalso; omega)) | with_reducible refine quiet_and ?_ ?_ | with_reducible refine awp_drawnA mixed (by decide +kernel) ?_ | ((fail_if_success with_reducible refine stp ?_); simp -implicitDefEqProofs only [go_sem, Nat.reduceEqDiff, Nat.reduceAdd, Nat.reduceLT, Nat.reduceMul, Nat.reduceSub, Nat.reduceLeDiff, ↓reduceIte, reduceCtorEq, ↓String.reduceEq, String.reduceNe, Int.reduceToNat, Int.reduceLT, Int.reduceLE, Int.reduceGT, Int.reduceGE, Int.reduceEq, Int.reduceNe, Int.reduceBEq, Int.reduceBNe, Int.reduceAdd, Int.reduceSub, Int.reduceMul, Int.reduceNeg,  encJc, frV, *]))
    refine ⟨m, (by (repeat refine Sub.fresh ?_ (by assumption)); exact Sub.refl _), ?_⟩
    have := HK.out.1 m (by rw [HT.out]; exact HK.out.2.1) (fun c _ _ => rfl)
    rw [HT.out] at this
    exact this
  | none =>
    have hg := mget_frs_none ht
    have HTG := Hid.mk ht
    clear ht
    rcases findF_cases C j0 with ⟨hf, hno⟩ | ⟨i, hf, hi, hid⟩
    · have HT := Hid.mk (show takeF C L tag (j0, j1, j2, j3) = (7, L) by unfold takeF; rw [HTG.out, if_neg (by simp), if_pos (by show findF C j0 < 0; rw [hf]; decide)])
      have HF := Hid.mk hf
      clear hf hno
      refine callWP_body Tryz.func9 rfl (N := 72) rfl (rs := [.tmp 6]) rfl en_9 (of_decide_eq_true rfl) ?_
      repeat' (first | exact tf0 ‹_› | exact tf1 ‹_› | exact False.elim ‹_› | (with_reducible refine Al.intro ?_; intro pb hpb; (try simp only [hupd_none'] at hpb); (repeat rcases hpb with ⟨⟨hpx, hpy⟩, hpb⟩)) | with_reducible refine need ?_ | ((with_reducible first | apply frk0 | apply frk1 | apply frk2 | apply frk3 | apply frk4 | apply frk5 | apply frk6 | apply frk7 | apply frk8 | apply frk9) <;> intro h <;> try (exfalso; omega)) | with_reducible refine quiet_and ?_ ?_ | with_reducible refine awp_drawnA mixed (by decide +kernel) ?_ | ((fail_if_success with_reducible refine stp ?_); simp -implicitDefEqProofs only [go_sem, Nat.reduceEqDiff, Nat.reduceAdd, Nat.reduceLT, Nat.reduceMul, Nat.reduceSub, Nat.reduceLeDiff, ↓reduceIte, reduceCtorEq, ↓String.reduceEq, String.reduceNe, Int.reduceToNat, Int.reduceLT, Int.reduceLE, Int.reduceGT, Int.reduceGE, Int.reduceEq, Int.reduceNe, Int.reduceBEq, Int.reduceBNe, Int.reduceAdd, Int.reduceSub, Int.reduceMul, Int.reduceNeg,  encJc, *]))
      refine CallWP.to (pfind_spec G C HK.out.2.2.2.1 j0 v _ (.inl (HK.out.2.1.str.into (by (repeat refine Sub.fresh ?_ (by assumption)); exact Sub.refl _)))) ?_
      rw [HF.out]
      repeat' (first | exact tf0 ‹_› | exact tf1 ‹_› | exact False.elim ‹_› | (with_reducible refine Al.intro ?_; intro pb hpb; (try simp only [hupd_none'] at hpb); (repeat rcases hpb with ⟨⟨hpx, hpy⟩, hpb⟩)) | with_reducible refine need ?_ | ((with_reducible first | apply frk0 | apply frk1 | apply frk2 | apply frk3 | apply frk4 | apply frk5 | apply frk6 | apply frk7 | apply frk8 | apply frk9) <;> intro h <;> try (exfalso; omega)) | with_reducible refine quiet_and ?_ ?_ | with_reducible refine awp_drawnA mixed (by decide +kernel) ?_ | ((fail_if_success with_reducible refine stp ?_); simp -implicitDefEqProofs only [go_sem, Nat.reduceEqDiff, Nat.reduceAdd, Nat.reduceLT, Nat.reduceMul, Nat.reduceSub, Nat.reduceLeDiff, ↓reduceIte, reduceCtorEq, ↓String.reduceEq, String.reduceNe, Int.reduceToNat, Int.reduceLT, Int.reduceLE, Int.reduceGT, Int.reduceGE, Int.reduceEq, Int.reduceNe, Int.reduceBEq, Int.reduceBNe, Int.reduceAdd, Int.reduceSub, Int.reduceMul, Int.reduceNeg,  encJc, *]))
      refine ⟨m, (by (repeat refine Sub.fresh ?_ (by assumption)); exact Sub.refl _), ?_⟩
      have := HK.out.1 m (by rw [HT.out]; exact HK.out.2.1) (fun c _ _ => rfl)
      rw [HT.out] at this
      exact this
    · have hsm := getD_mem C i hi
      obtain ⟨x, hx⟩ : ∃ x, C.getD i default = x := ⟨_, rfl⟩
      rw [hx] at hid hsm
      have HJ := Hid.mk (pjob_spec G HK.out.2.2.1 x j1)
      obtain ⟨⟨⟨q0, q1, q2, q3⟩, e⟩, hje⟩ : ∃ y, jobS x j1 = y := ⟨_, rfl⟩
      rw [hje] at HJ
      have HT0 : Hid (takeF C L tag (j0, j1, j2, j3) = if e ≠ 0 ∨ ((q0, q1, q2, q3) : Jb) ≠ (j0, j1, j2, j3) then (10, L) else (0, L ++ [(tag, (j0, j1, j2, j3), 0, 0)])) := .mk (by
        unfold takeF
        rw [HTG.out, if_neg (by simp)]
        simp only
        rw [hf, if_neg (by omega), Int.toNat_natCast, hx, hje])
      have hpl : ¬ (i : Int) < 0 := by omega
      have HF := Hid.mk (And.intro hf (And.intro hsm hid))
      have hstr := HK.out.2.1.str
      have hcm : ∃ b pre post N cap, v = .slice b (pre : List AVal).length C.length cap ∧ m b = some (.cells (pre ++ (C.flatMap encSc ++ post)) N) := by
        rcases hstr with ⟨_, h2⟩ | ⟨b, blk, hb, pre, post, N, cap, h1, h2, _⟩
        · rw [h2] at hi; simp at hi
        · exact ⟨b, pre, post, N, cap, h1, by rw [hb, h2]⟩
      obtain ⟨b, pre, post, N, cap, hv, hb⟩ := hcm
      subst hv
      have g0 := sm_at C pre post i hi x hx
      have l1 := sm_len C pre post i hi
      have lt1 : (i : Int) < (C.length : Int) := by omega
      have frb : ∀ c, m c = none → (b = c) = False := fun c h => by rw [eq_iff_iff, iff_false]; exact seenB hb h
      clear hf hsm hid hje hx hstr hi
      by_cases he : e = 0
      · have he0 : (e != 0) = false := by simpa using he
        by_cases hq : ((q0, q1, q2, q3) : Jb) = (j0, j1, j2, j3)
        · have HT := Hid.mk (HT0.out.trans (if_neg (fun h => h.elim (fun g => g he) (fun g => g hq))))
          simp only [Prod.mk.injEq] at hq
          obtain ⟨rfl, rfl, rfl, rfl⟩ := hq
          subst he
          have hg2 := mget_rows (rb := rb) (id := q0) ⟨x, HF.out.2⟩
          have hput : mput (frsE L) bsF clF tag (.agg [.int .i64 q0, .int .i64 q1, .int .i64 q2, .int .i64 q3, .int .i64 0]) = .map (frsE (L ++ [(tag, (q0, q1, q2, q3), 0, 0)])) (bsF ++ [clF]) (clF + 1) := frs_put HTG.out (q0, q1, q2, q3) bsF clF
          clear HT0
          refine callWP_body Tryz.func9 rfl (N := 72) rfl (rs := [.tmp 6]) rfl en_9 (of_decide_eq_true rfl) ?_
          repeat' (first | exact tf0 ‹_› | exact tf1 ‹_› | exact False.elim ‹_› | (with_reducible refine Al.intro ?_; intro pb hpb; (try simp only [hupd_none'] at hpb); (repeat rcases hpb with ⟨⟨hpx, hpy⟩, hpb⟩)) | with_reducible refine need ?_ | ((with_reducible first | apply frk0 | apply frk1 | apply frk2 | apply frk3 | apply frk4 | apply frk5 | apply frk6 | apply frk7 | apply frk8 | apply frk9) <;> intro h <;> try (exfalso; omega)) | with_reducible refine quiet_and ?_ ?_ | with_reducible refine awp_drawnA mixed (by decide +kernel) ?_ | ((fail_if_success with_reducible refine stp ?_); simp -implicitDefEqProofs only [go_sem, Nat.reduceEqDiff, Nat.reduceAdd, Nat.reduceLT, Nat.reduceMul, Nat.reduceSub, Nat.reduceLeDiff, ↓reduceIte, reduceCtorEq, ↓String.reduceEq, String.reduceNe, Int.reduceToNat, Int.reduceLT, Int.reduceLE, Int.reduceGT, Int.reduceGE, Int.reduceEq, Int.reduceNe, Int.reduceBEq, Int.reduceBNe, Int.reduceAdd, Int.reduceSub, Int.reduceMul, Int.reduceNeg,  encJc, *]))
          refine CallWP.to (pfind_spec G C HK.out.2.2.2.1 _ _ _ (.inl (HK.out.2.1.str.into (by (repeat refine Sub.fresh ?_ (by assumption)); exact Sub.refl _)))) ?_
          rw [HF.out.1]
          repeat' (first | exact tf0 ‹_› | exact tf1 ‹_› | exact False.elim ‹_› | (with_reducible refine Al.intro ?_; intro pb hpb; (try simp only [hupd_none'] at hpb); (repeat rcases hpb with ⟨⟨hpx, hpy⟩, hpb⟩)) | with_reducible refine need ?_ | ((with_reducible first | apply frk0 | apply frk1 | apply frk2 | apply frk3 | apply frk4 | apply frk5 | apply frk6 | apply frk7 | apply frk8 | apply frk9) <;> intro h <;> try (exfalso; omega)) | with_reducible refine quiet_and ?_ ?_ | with_reducible refine awp_drawnA mixed (by decide +kernel) ?_ | ((fail_if_success with_reducible refine stp ?_); simp -implicitDefEqProofs only [go_sem, Nat.reduceEqDiff, Nat.reduceAdd, Nat.reduceLT, Nat.reduceMul, Nat.reduceSub, Nat.reduceLeDiff, ↓reduceIte, reduceCtorEq, ↓String.reduceEq, String.reduceNe, Int.reduceToNat, Int.reduceLT, Int.reduceLE, Int.reduceGT, Int.reduceGE, Int.reduceEq, Int.reduceNe, Int.reduceBEq, Int.reduceBNe, Int.reduceAdd, Int.reduceSub, Int.reduceMul, Int.reduceNeg,  encJc, *]))
          refine awp_drawnE [(0, .q), (7, .q), (1, .q), (8, .q), (2, .q), (3, .q), (4, .q), (5, .q), (6, .q), (9, .k), (10, .q), (11, .q), (12, .r [14]), (13, .q), (14, .e), (15, .q)] (fun k => match k with | 9 => .tuple [encJ (q0, q1, q2, q3), .int .i64 0] | _ => .undef) (fun _ => False) (fun _ _ => False) mixed (by decide +kernel) ?_
          repeat' (first | exact tf0 ‹_› | exact tf1 ‹_› | exact False.elim ‹_› | (with_reducible refine Al.intro ?_; intro pb hpb; (try simp only [hupd_none'] at hpb); (repeat rcases hpb with ⟨⟨hpx, hpy⟩, hpb⟩)) | with_reducible refine need ?_ | ((with_reducible first | apply frk0 | apply frk1 | apply frk2 | apply frk3 | apply frk4 | apply frk5 | apply frk6 | apply frk7 | apply frk8 | apply frk9) <;> intro h <;> try (exfalso; omega)) | with_reducible refine quiet_and ?_ ?_ | with_reducible refine awp_drawnA mixed (by decide +kernel) ?_ | ((fail_if_success with_reducible refine stp ?_); simp -implicitDefEqProofs only [go_sem, Nat.reduceEqDiff, Nat.reduceAdd, Nat.reduceLT, Nat.reduceMul, Nat.reduceSub, Nat.reduceLeDiff, ↓reduceIte, reduceCtorEq, ↓String.reduceEq, String.reduceNe, Int.reduceToNat, Int.reduceLT, Int.reduceLE, Int.reduceGT, Int.reduceGE, Int.reduceEq, Int.reduceNe, Int.reduceBEq, Int.reduceBNe, Int.reduceAdd, Int.reduceSub, Int.reduceMul, Int.reduceNeg,  encJc, encSc, encJ, *]))
          · exact fun m3 _ => HJ.out m3
          rename_i p5 e5 p7 e7 n75 n57 na nb
          have key : ∀ (c : Nat) (y1 y2 y3 y4 : ABlk), m c ≠ none → c ≠ fm → hupd (hupd (hupd (hupd m p5 y1) p7 y2) pb y3) fm y4 c = m c := fun c y1 y2 y3 y4 h1 h2 => by
            rw [hupd_ne h2, hupd_ne (fun e => h1 (by rw [e]; exact hpb)), hupd_ne (fun e => h1 (by rw [e]; exact e7)), hupd_ne (fun e => h1 (by rw [e]; exact e5))]
          generalize hM : hupd (hupd (hupd (hupd m p5 _) p7 _) pb _) fm _ = M
          have key2 : ∀ c, m c ≠ none → c ≠ fm → M c = m c := fun c h1 h2 => by rw [← hM]; exact key c _ _ _ _ h1 h2
          have kfm2 : M fm = some (.map (frsE (L ++ [(tag, (q0, q1, q2, q3), 0, 0)])) (bsF ++ [clF]) (clF + 1)) := by rw [← hM, hupd_at, if_pos rfl]
          clear hM key hg hput g0
          have hrep := HK.out.2.1
          have hbs := HB.out.2.2.2
          have hxq : x.1 = q0 := HF.out.2.2
          have kt2 : M tb = some (rowB (.slice b pre.length C.length cap) rm fm (-1) (rowOf pAll L)) := (key2 tb (by rw [hrep.tab]; simp) nx1).trans hrep.tab
          have kr2 : M rm = some (.map (rowsE C rb) bsR clR) := (key2 rm (by rw [krm]; simp) nx3).trans krm
          have hrow := hrep.row x HF.out.2.1
          have hnr := hrep.ne_rb HF.out.2.1
          simp only at hrow hnr
          rw [hxq] at hrow hnr
          have kb2 : M (rb q0) = some (rowA q0 (rowOf (pId q0) L)) := (key2 (rb q0) (by rw [hrow]; simp) hnr.2.2).trans hrow
          have sA := row_small pAll L (by have := HK.out.2.2.2.2; omega)
          have sI := row_small (pId q0) L (by have := HK.out.2.2.2.2; omega)
          have rcA := (row_came pAll L tag (q0, q1, q2, q3)).trans (if_pos rfl)
          have rcI := fun id => row_came (pId id) L tag (q0, q1, q2, q3)
          obtain ⟨rA, hrA⟩ : ∃ r, rowOf pAll L = r := ⟨_, rfl⟩
          obtain ⟨rI, hrI⟩ : ∃ r, rowOf (pId q0) L = r := ⟨_, rfl⟩
          rw [hrA] at kt2 sA rcA
          rw [hrI] at kb2 sI
          have cA := Hid.mk (came_spec G tb 2 (-1) rA sA (.slice b pre.length C.length cap) rm fm)
          have cI := Hid.mk (came_spec G (rb q0) 0 q0 rI sI (.slice b pre.length C.length cap) rm fm)
          have HY := Hid.mk (And.intro key2 (And.intro kfm2 (And.intro kt2 (And.intro kr2 (And.intro kb2 (And.intro rcA (And.intro rcI (And.intro hrI (And.intro hrow (And.intro hbs hxq))))))))))
          have HNR := Hid.mk hnr
          have hbth := Hid.mk (both_spec G tb (-1) rA (.slice b pre.length C.length cap) rm fm (rb q0) (rowsE C rb) bsR clR q0 M kt2 kr2 hg2)
          clear key2 kfm2 kt2 kr2 hrow kb2 sA sI rcA rcI hrA hrI hbs hnr hg2 ktb krm kfm hrep hxq hb frt frr frf frf2 frb l1
          refine CallWP.to hbth.out ?_
          repeat' (first | exact tf0 ‹_› | exact tf1 ‹_› | exact False.elim ‹_› | (with_reducible refine Al.intro ?_; intro pb hpb; (try simp only [hupd_none'] at hpb); (repeat rcases hpb with ⟨⟨hpx, hpy⟩, hpb⟩)) | with_reducible refine need ?_ | ((with_reducible first | apply frk0 | apply frk1 | apply frk2 | apply frk3 | apply frk4 | apply frk5 | apply frk6 | apply frk7 | apply frk8 | apply frk9) <;> intro h <;> try (exfalso; omega)) | with_reducible refine quiet_and ?_ ?_ | with_reducible refine awp_drawnA mixed (by decide +kernel) ?_ | ((fail_if_success with_reducible refine stp ?_); simp -implicitDefEqProofs only [go_sem, Nat.reduceEqDiff, Nat.reduceAdd, Nat.reduceLT, Nat.reduceMul, Nat.reduceSub, Nat.reduceLeDiff, ↓reduceIte, reduceCtorEq, ↓String.reduceEq, String.reduceNe, Int.reduceToNat, Int.reduceLT, Int.reduceLE, Int.reduceGT, Int.reduceGE, Int.reduceEq, Int.reduceNe, Int.reduceBEq, Int.reduceBNe, Int.reduceAdd, Int.reduceSub, Int.reduceMul, Int.reduceNeg,  *]))
          refine awp_loopP 0 (fun ts m' => m' = hupd (hupd M (rb q0) (rowA q0 (cameR rI))) tb (rowB (.slice b pre.length C.length cap) rm fm (-1) (cameR rA)))
            (fun k ts m' => ts 65 = .agg [.ptr (rb q0) 0, .ptr tb 2] ∧ ((k = 2 ∧ m' = M ∧ ts 66 = .int .i64 0) ∨ (k = 1 ∧ m' = hupd M (rb q0) (rowA q0 (cameR rI)) ∧ ts 66 = .int .i64 1) ∨ (k = 0 ∧ m' = hupd (hupd M (rb q0) (rowA q0 (cameR rI))) tb (rowB (.slice b pre.length C.length cap) rm fm (-1) (cameR rA)) ∧ ts 66 = .int .i64 2))) 2
            ⟨ttt, .inl ⟨rfl, rfl, ttt⟩⟩ ?_ ?_
          · have w1 : IntKind.i64.wrap 1 = 1 := by decide
            have w2 : IntKind.i64.wrap 2 = 2 := by decide
            rintro k ts m' ⟨t65, ⟨rfl, hm, t66⟩ | ⟨rfl, hm, t66⟩ | ⟨rfl, hm, t66⟩⟩ <;> rw [hm] <;> clear hm
            · repeat' (first | exact tf0 ‹_› | exact tf1 ‹_› | exact False.elim ‹_› | (with_reducible refine Al.intro ?_; intro pb hpb; (try simp only [hupd_none'] at hpb); (repeat rcases hpb with ⟨⟨hpx, hpy⟩, hpb⟩)) | with_reducible refine need ?_ | ((with_reducible first | apply frk0 | apply frk1 | apply frk2 | apply frk3 | apply frk4 | apply frk5 | apply frk6 | apply frk7 | apply frk8 | apply frk9) <;> intro h <;> try (exfalso; omega)) | with_reducible refine quiet_and ?_ ?_ | with_reducible refine awp_drawnA mixed (by decide +kernel) ?_ | ((fail_if_success with_reducible refine stp ?_); simp -implicitDefEqProofs only [go_sem, Nat.reduceEqDiff, Nat.reduceAdd, Nat.reduceLT, Nat.reduceMul, Nat.reduceSub, Nat.reduceLeDiff, ↓reduceIte, reduceCtorEq, ↓String.reduceEq, String.reduceNe, Int.reduceToNat, Int.reduceLT, Int.reduceLE, Int.reduceGT, Int.reduceGE, Int.reduceEq, Int.reduceNe, Int.reduceBEq, Int.reduceBNe, Int.reduceAdd, Int.reduceSub, Int.reduceMul, Int.reduceNeg,  *]))
              refine (cI.out M (.inl ⟨rfl, HY.out.2.2.2.2.1⟩)).mono ?_
              rintro w m2 ⟨rfl, rfl⟩
              rw [if_pos rfl]
              repeat' (first | exact tf0 ‹_› | exact tf1 ‹_› | exact False.elim ‹_› | (with_reducible refine Al.intro ?_; intro pb hpb; (try simp only [hupd_none'] at hpb); (repeat rcases hpb with ⟨⟨hpx, hpy⟩, hpb⟩)) | with_reducible refine need ?_ | ((with_reducible first | apply frk0 | apply frk1 | apply frk2 | apply frk3 | apply frk4 | apply frk5 | apply frk6 | apply frk7 | apply frk8 | apply frk9) <;> intro h <;> try (exfalso; omega)) | with_reducible refine quiet_and ?_ ?_ | with_reducible refine awp_drawnA mixed (by decide +kernel) ?_ | ((fail_if_success with_reducible refine stp ?_); simp -implicitDefEqProofs only [go_sem, Nat.reduceEqDiff, Nat.reduceAdd, Nat.reduceLT, Nat.reduceMul, Nat.reduceSub, Nat.reduceLeDiff, ↓reduceIte, reduceCtorEq, ↓String.reduceEq, String.reduceNe, Int.reduceToNat, Int.reduceLT, Int.reduceLE, Int.reduceGT, Int.reduceGE, Int.reduceEq, Int.reduceNe, Int.reduceBEq, Int.reduceBNe, Int.reduceAdd, Int.reduceSub, Int.reduceMul, Int.reduceNeg,  *]))
              exact Again.intro ⟨1, by decide, _, Sub.refl _, (by first | (simp only [upd, put, Nat.reduceEqDiff, ↓reduceIte, t65]; done) | (simp [upd, put, t65]; done) | rfl | (simp [upd, put, t65]; rfl)), .inr (.inl ⟨rfl, rfl, ttt⟩)⟩
            · repeat' (first | exact tf0 ‹_› | exact tf1 ‹_› | exact False.elim ‹_› | (with_reducible refine Al.intro ?_; intro pb hpb; (try simp only [hupd_none'] at hpb); (repeat rcases hpb with ⟨⟨hpx, hpy⟩, hpb⟩)) | with_reducible refine need ?_ | ((with_reducible first | apply frk0 | apply frk1 | apply frk2 | apply frk3 | apply frk4 | apply frk5 | apply frk6 | apply frk7 | apply frk8 | apply frk9) <;> intro h <;> try (exfalso; omega)) | with_reducible refine quiet_and ?_ ?_ | with_reducible refine awp_drawnA mixed (by decide +kernel) ?_ | ((fail_if_success with_reducible refine stp ?_); simp -implicitDefEqProofs only [go_sem, Nat.reduceEqDiff, Nat.reduceAdd, Nat.reduceLT, Nat.reduceMul, Nat.reduceSub, Nat.reduceLeDiff, ↓reduceIte, reduceCtorEq, ↓String.reduceEq, String.reduceNe, Int.reduceToNat, Int.reduceLT, Int.reduceLE, Int.reduceGT, Int.reduceGE, Int.reduceEq, Int.reduceNe, Int.reduceBEq, Int.reduceBNe, Int.reduceAdd, Int.reduceSub, Int.reduceMul, Int.reduceNeg,  *]))
              refine (cA.out (hupd M (rb q0) (rowA q0 (cameR rI))) (.inr ⟨rfl, by rw [hupd_ne (Ne.symm HNR.out.1)]; exact HY.out.2.2.1⟩)).mono ?_
              rintro w m2 ⟨rfl, rfl⟩
              rw [if_neg (by decide)]
              repeat' (first | exact tf0 ‹_› | exact tf1 ‹_› | exact False.elim ‹_› | (with_reducible refine Al.intro ?_; intro pb hpb; (try simp only [hupd_none'] at hpb); (repeat rcases hpb with ⟨⟨hpx, hpy⟩, hpb⟩)) | with_reducible refine need ?_ | ((with_reducible first | apply frk0 | apply frk1 | apply frk2 | apply frk3 | apply frk4 | apply frk5 | apply frk6 | apply frk7 | apply frk8 | apply frk9) <;> intro h <;> try (exfalso; omega)) | with_reducible refine quiet_and ?_ ?_ | with_reducible refine awp_drawnA mixed (by decide +kernel) ?_ | ((fail_if_success with_reducible refine stp ?_); simp -implicitDefEqProofs only [go_sem, Nat.reduceEqDiff, Nat.reduceAdd, Nat.reduceLT, Nat.reduceMul, Nat.reduceSub, Nat.reduceLeDiff, ↓reduceIte, reduceCtorEq, ↓String.reduceEq, String.reduceNe, Int.reduceToNat, Int.reduceLT, Int.reduceLE, Int.reduceGT, Int.reduceGE, Int.reduceEq, Int.reduceNe, Int.reduceBEq, Int.reduceBNe, Int.reduceAdd, Int.reduceSub, Int.reduceMul, Int.reduceNeg,  *]))
              exact Again.intro ⟨0, by decide, _, Sub.refl _, (by first | (simp only [upd, put, Nat.reduceEqDiff, ↓reduceIte, t65]; done) | (simp [upd, put, t65]; done) | rfl | (simp [upd, put, t65]; rfl)), .inr (.inr ⟨rfl, rfl, ttt⟩)⟩
            · repeat' (first | exact tf0 ‹_› | exact tf1 ‹_› | exact False.elim ‹_› | (with_reducible refine Al.intro ?_; intro pb hpb; (try simp only [hupd_none'] at hpb); (repeat rcases hpb with ⟨⟨hpx, hpy⟩, hpb⟩)) | with_reducible refine need ?_ | ((with_reducible first | apply frk0 | apply frk1 | apply frk2 | apply frk3 | apply frk4 | apply frk5 | apply frk6 | apply frk7 | apply frk8 | apply frk9) <;> intro h <;> try (exfalso; omega)) | with_reducible refine quiet_and ?_ ?_ | with_reducible refine awp_drawnA mixed (by decide +kernel) ?_ | ((fail_if_success with_reducible refine stp ?_); simp -implicitDefEqProofs only [go_sem, Nat.reduceEqDiff, Nat.reduceAdd, Nat.reduceLT, Nat.reduceMul, Nat.reduceSub, Nat.reduceLeDiff, ↓reduceIte, reduceCtorEq, ↓String.reduceEq, String.reduceNe, Int.reduceToNat, Int.reduceLT, Int.reduceLE, Int.reduceGT, Int.reduceGE, Int.reduceEq, Int.reduceNe, Int.reduceBEq, Int.reduceBNe, Int.reduceAdd, Int.reduceSub, Int.reduceMul, Int.reduceNeg,  *]))
              exact Again.intro rfl
          · rintro ts m' hm'
            rw [hm']
            clear hm'
            repeat' (first | exact tf0 ‹_› | exact tf1 ‹_› | exact False.elim ‹_› | (with_reducible refine Al.intro ?_; intro pb hpb; (try simp only [hupd_none'] at hpb); (repeat rcases hpb with ⟨⟨hpx, hpy⟩, hpb⟩)) | with_reducible refine need ?_ | ((with_reducible first | apply frk0 | apply frk1 | apply frk2 | apply frk3 | apply frk4 | apply frk5 | apply frk6 | apply frk7 | apply frk8 | apply frk9) <;> intro h <;> try (exfalso; omega)) | with_reducible refine quiet_and ?_ ?_ | with_reducible refine awp_drawnA mixed (by decide +kernel) ?_ | ((fail_if_success with_reducible refine stp ?_); simp -implicitDefEqProofs only [go_sem, Nat.reduceEqDiff, Nat.reduceAdd, Nat.reduceLT, Nat.reduceMul, Nat.reduceSub, Nat.reduceLeDiff, ↓reduceIte, reduceCtorEq, ↓String.reduceEq, String.reduceNe, Int.reduceToNat, Int.reduceLT, Int.reduceLE, Int.reduceGT, Int.reduceGE, Int.reduceEq, Int.reduceNe, Int.reduceBEq, Int.reduceBNe, Int.reduceAdd, Int.reduceSub, Int.reduceMul, Int.reduceNeg,  *]))
            refine ⟨_, Sub.refl _, ?_⟩
            obtain ⟨key2, kfm2, kt2, kr2, kb2, rcA, rcI, hrI, hrow, hbs, hxq⟩ := HY.out
            have hrep := HK.out.2.1
            have hfin := HK.out.1 (hupd (hupd M (rb q0) (rowA q0 (cameR rI))) tb (rowB (.slice b pre.length C.length cap) rm fm (-1) (cameR rA)))
            rw [HT.out] at hfin
            refine hfin ?_ ?_
            · refine ⟨?_, ?_, ?_, ?_, ?_, hrep.inj, hrep.sep, hrep.ne⟩
              · rw [hupd_at, if_pos rfl, rcA]
              · refine hrep.str.keep (fun c hc => ?_)
                have ho := hrep.v_out hc
                rw [hupd_ne (fun e => ho (.inl e)), hupd_ne (fun e => ho (.inr (.inr (.inr ⟨x, HF.out.2.1, by rw [hxq]; exact e⟩)))), key2 c (slm_some hrep.str hc) (fun e => ho (.inr (.inr (.inl e))))]
              · exact ⟨bsR, clR, by rw [hupd_ne (Ne.symm nx2), hupd_ne (Ne.symm HNR.out.2.1)]; exact kr2⟩
              · intro s hs
                have hns := (hrep.ne_rb hs)
                simp only at hns ⊢
                rw [hupd_ne hns.1, rcI s.1]
                by_cases e : s.1 = q0
                · rw [e, hupd_at, if_pos rfl, if_pos (by unfold pId; simp), hrI]
                · have hb3 : rb s.1 ≠ rb q0 := fun e2 => e ((hrep.inj s hs x HF.out.2.1 (by simp only; rw [hxq]; exact e2)).trans hxq)
                  have hro := hrep.row s hs
                  simp only at hro
                  rw [hupd_ne hb3, key2 _ (by rw [hro]; simp) hns.2.2, hro, if_neg (by unfold pId; simp only [decide_eq_true_eq]; exact fun h => e h.symm)]
              · refine ⟨bsF ++ [clF], clF + 1, by rw [hupd_ne (Ne.symm nx1), hupd_ne (Ne.symm HNR.out.2.2)]; exact kfm2, ?_, ?_, by rw [List.length_append, List.length_append, hbs.2.2]; rfl⟩
                · rw [List.nodup_append]
                  exact ⟨hbs.1, by simp, fun a ha c hc e => by rw [List.mem_singleton.1 hc] at e; have := hbs.2.1 a ha; omega⟩
                · intro a ha
                  rcases List.mem_append.1 ha with h | h
                  · have := hbs.2.1 a h; omega
                  · rw [List.mem_singleton.1 h]; omega
            · intro c hc ho
              rw [hupd_ne (fun e => ho (.inl e)), hupd_ne (fun e => ho (.inr (.inr (.inr ⟨x, HF.out.2.1, by simp only; rw [hxq]; exact e⟩)))), key2 c hc (fun e => ho (.inr (.inr (.inl e))))]
        · have HT := Hid.mk (HT0.out.trans (if_pos (.inr hq)))
          have hb4 : (q0 == j0 && (q1 == j1 && (q2 == j2 && q3 == j3))) = false := by
            cases hc : (q0 == j0 && (q1 == j1 && (q2 == j2 && q3 == j3))) with
            | false => rfl
            | true => simp only [Bool.and_eq_true, beq_iff_eq] at hc; exact absurd (by rw [hc.1, hc.2.1, hc.2.2.1, hc.2.2.2]) hq
          clear he hq
          refine callWP_body Tryz.func9 rfl (N := 72) rfl (rs := [.tmp 6]) rfl en_9 (of_decide_eq_true rfl) ?_
          repeat' (first | exact tf0 ‹_› | exact tf1 ‹_› | exact False.elim ‹_› | (with_reducible refine Al.intro ?_; intro pb hpb; (try simp only [hupd_none'] at hpb); (repeat rcases hpb with ⟨⟨hpx, hpy⟩, hpb⟩)) | with_reducible refine need ?_ | ((with_reducible first | apply frk0 | apply frk1 | apply frk2 | apply frk3 | apply frk4 | apply frk5 | apply frk6 | apply frk7 | apply frk8 | apply frk9) <;> intro h <;> try (exfalso; omega)) | with_reducible refine quiet_and ?_ ?_ | with_reducible refine awp_drawnA mixed (by decide +kernel) ?_ | ((fail_if_success with_reducible refine stp ?_); simp -implicitDefEqProofs only [go_sem, Nat.reduceEqDiff, Nat.reduceAdd, Nat.reduceLT, Nat.reduceMul, Nat.reduceSub, Nat.reduceLeDiff, ↓reduceIte, reduceCtorEq, ↓String.reduceEq, String.reduceNe, Int.reduceToNat, Int.reduceLT, Int.reduceLE, Int.reduceGT, Int.reduceGE, Int.reduceEq, Int.reduceNe, Int.reduceBEq, Int.reduceBNe, Int.reduceAdd, Int.reduceSub, Int.reduceMul, Int.reduceNeg,  encJc, *]))
          refine CallWP.to (pfind_spec G C HK.out.2.2.2.1 _ _ _ (.inl (HK.out.2.1.str.into (by (repeat refine Sub.fresh ?_ (by assumption)); exact Sub.refl _)))) ?_
          rw [HF.out.1]
          repeat' (first | exact tf0 ‹_› | exact tf1 ‹_› | exact False.elim ‹_› | (with_reducible refine Al.intro ?_; intro pb hpb; (try simp only [hupd_none'] at hpb); (repeat rcases hpb with ⟨⟨hpx, hpy⟩, hpb⟩)) | with_reducible refine need ?_ | ((with_reducible first | apply frk0 | apply frk1 | apply frk2 | apply frk3 | apply frk4 | apply frk5 | apply frk6 | apply frk7 | apply frk8 | apply frk9) <;> intro h <;> try (exfalso; omega)) | with_reducible refine quiet_and ?_ ?_ | with_reducible refine awp_drawnA mixed (by decide +kernel) ?_ | ((fail_if_success with_reducible refine stp ?_); simp -implicitDefEqProofs only [go_sem, Nat.reduceEqDiff, Nat.reduceAdd, Nat.reduceLT, Nat.reduceMul, Nat.reduceSub, Nat.reduceLeDiff, ↓reduceIte, reduceCtorEq, ↓String.reduceEq, String.reduceNe, Int.reduceToNat, Int.reduceLT, Int.reduceLE, Int.reduceGT, Int.reduceGE, Int.reduceEq, Int.reduceNe, Int.reduceBEq, Int.reduceBNe, Int.reduceAdd, Int.reduceSub, Int.reduceMul, Int.reduceNeg,  encJc, *]))
          refine awp_drawnE [(0, .q), (7, .q), (1, .q), (8, .q), (2, .q), (3, .q), (4, .q), (5, .q), (6, .q), (9, .k), (10, .q), (11, .q), (12, .r [14]), (13, .q), (14, .e), (15, .q)] (fun k => match k with | 9 => .tuple [encJ (q0, q1, q2, q3), .int .i64 e] | _ => .undef) (fun _ => False) (fun _ _ => False) mixed (by decide +kernel) ?_
          repeat' (first | exact tf0 ‹_› | exact tf1 ‹_› | exact False.elim ‹_› | (with_reducible refine Al.intro ?_; intro pb hpb; (try simp only [hupd_none'] at hpb); (repeat rcases hpb with ⟨⟨hpx, hpy⟩, hpb⟩)) | with_reducible refine need ?_ | ((with_reducible first | apply frk0 | apply frk1 | apply frk2 | apply frk3 | apply frk4 | apply frk5 | apply frk6 | apply frk7 | apply frk8 | apply frk9) <;> intro h <;> try (exfalso; omega)) | with_reducible refine quiet_and ?_ ?_ | with_reducible refine awp_drawnA mixed (by decide +kernel) ?_ | ((fail_if_success with_reducible refine stp ?_); simp -implicitDefEqProofs only [go_sem, Nat.reduceEqDiff, Nat.reduceAdd, Nat.reduceLT, Nat.reduceMul, Nat.reduceSub, Nat.reduceLeDiff, ↓reduceIte, reduceCtorEq, ↓String.reduceEq, String.reduceNe, Int.reduceToNat, Int.reduceLT, Int.reduceLE, Int.reduceGT, Int.reduceGE, Int.reduceEq, Int.reduceNe, Int.reduceBEq, Int.reduceBNe, Int.reduceAdd, Int.reduceSub, Int.reduceMul, Int.reduceNeg,  encJc, encSc, encJ, *]))
          · exact fun m3 _ => HJ.out m3
          refine ⟨m, (by (repeat refine Sub.fresh ?_ (by assumption)); exact Sub.refl _), ?_⟩
          have := HK.out.1 m (by rw [HT.out]; exact HK.out.2.1) (fun c _ _ => rfl)
          rw [HT.out] at this
          exact this
      · have HT := Hid.mk (HT0.out.trans (if_pos (.inl he)))
        have he1 : (e != 0) = true := by simpa using he
        clear he
        refine callWP_body Tryz.func9 rfl (N := 72) rfl (rs := [.tmp 6]) rfl en_9 (of_decide_eq_true rfl) ?_
        repeat' (first | exact tf0 ‹_› | exact tf1 ‹_› | exact False.elim ‹_› | (with_reducible refine Al.intro ?_; intro pb hpb; (try simp only [hupd_none'] at hpb); (repeat rcases hpb with ⟨⟨hpx, hpy⟩, hpb⟩)) | with_reducible refine need ?_ | ((with_reducible first | apply frk0 | apply frk1 | apply frk2 | apply frk3 | apply frk4 | apply frk5 | apply frk6 | apply frk7 | apply frk8 | apply frk9) <;> intro h <;> try (exfalso; omega)) | with_reducible refine quiet_and ?_ ?_ | with_reducible refine awp_drawnA mixed (by decide +kernel) ?_ | ((fail_if_success with_reducible refine stp ?_); simp -implicitDefEqProofs only [go_sem, Nat.reduceEqDiff, Nat.reduceAdd, Nat.reduceLT, Nat.reduceMul, Nat.reduceSub, Nat.reduceLeDiff, ↓reduceIte, reduceCtorEq, ↓String.reduceEq, String.reduceNe, Int.reduceToNat, Int.reduceLT, Int.reduceLE, Int.reduceGT, Int.reduceGE, Int.reduceEq, Int.reduceNe, Int.reduceBEq, Int.reduceBNe, Int.reduceAdd, Int.reduceSub, Int.reduceMul, Int.reduceNeg,  encJc, *]))
        refine CallWP.to (pfind_spec G C HK.out.2.2.2.1 _ _ _ (.inl (HK.out.2.1.str.into (by (repeat refine Sub.fresh ?_ (by assumption)); exact Sub.refl _)))) ?_
        rw [HF.out.1]
        repeat' (first | exact tf0 ‹_› | exact tf1 ‹_› | exact False.elim ‹_› | (with_reducible refine Al.intro ?_; intro pb hpb; (try simp only [hupd_none'] at hpb); (repeat rcases hpb with ⟨⟨hpx, hpy⟩, hpb⟩)) | with_reducible refine need ?_ | ((with_reducible first | apply frk0 | apply frk1 | apply frk2 | apply frk3 | apply frk4 | apply frk5 | apply frk6 | apply frk7 | apply frk8 | apply frk9) <;> intro h <;> try (exfalso; omega)) | with_reducible refine quiet_and ?_ ?_ | with_reducible refine awp_drawnA mixed (by decide +kernel) ?_ | ((fail_if_success with_reducible refine stp ?_); simp -implicitDefEqProofs only [go_sem, Nat.reduceEqDiff, Nat.reduceAdd, Nat.reduceLT, Nat.reduceMul, Nat.reduceSub, Nat.reduceLeDiff, ↓reduceIte, reduceCtorEq, ↓String.reduceEq, String.reduceNe, Int.reduceToNat, Int.reduceLT, Int.reduceLE, Int.reduceGT, Int.reduceGE, Int.reduceEq, Int.reduceNe, Int.reduceBEq, Int.reduceBNe, Int.reduceAdd, Int.reduceSub, Int.reduceMul, Int.reduceNeg,  encJc, *]))
        refine awp_drawnE [(0, .q), (7, .q), (1, .q), (8, .q), (2, .q), (3, .q), (4, .q), (5, .q), (6, .q), (9, .k), (10, .q), (11, .q), (12, .r [14]), (13, .q), (14, .e), (15, .q)] (fun k => match k with | 9 => .tuple [encJ (q0, q1, q2, q3), .int .i64 e] | _ => .undef) (fun _ => False) (fun _ _ => False) mixed (by decide +kernel) ?_
        repeat' (first | exact tf0 ‹_› | exact tf1 ‹_› | exact False.elim ‹_› | (with_reducible refine Al.intro ?_; intro pb hpb; (try simp only [hupd_none'] at hpb); (repeat rcases hpb with ⟨⟨hpx, hpy⟩, hpb⟩)) | with_reducible refine need ?_ | ((with_reducible first | apply frk0 | apply frk1 | apply frk2 | apply frk3 | apply frk4 | apply frk5 | apply frk6 | apply frk7 | apply frk8 | apply frk9) <;> intro h <;> try (exfalso; omega)) | with_reducible refine quiet_and ?_ ?_ | with_reducible refine awp_drawnA mixed (by decide +kernel) ?_ | ((fail_if_success with_reducible refine stp ?_); simp -implicitDefEqProofs only [go_sem, Nat.reduceEqDiff, Nat.reduceAdd, Nat.reduceLT, Nat.reduceMul, Nat.reduceSub, Nat.reduceLeDiff, ↓reduceIte, reduceCtorEq, ↓String.reduceEq, String.reduceNe, Int.reduceToNat, Int.reduceLT, Int.reduceLE, Int.reduceGT, Int.reduceGE, Int.reduceEq, Int.reduceNe, Int.reduceBEq, Int.reduceBNe, Int.reduceAdd, Int.reduceSub, Int.reduceMul, Int.reduceNeg,  encJc, encSc, encJ, *]))
        · exact fun m3 _ => HJ.out m3
        refine ⟨m, (by (repeat refine Sub.fresh ?_ (by assumption)); exact Sub.refl _), ?_⟩
        have := HK.out.1 m (by rw [HT.out]; exact HK.out.2.1) (fun c _ _ => rfl)
        rw [HT.out] at this
        exact this
end Go.Proofs.YtdckcophbmnjjaaGreatDoor
