/- What must be whatever is asked. -/
import Derived.Test.YtmifapnmlhchlaaE20
set_option linter.all false
namespace Go.Proofs.Ytmifapnmlhchlaa
open Go Go.Proofs.Ytmifapnmlhchlaa.Ab
open Go.Proofs (Try.prog)
set_option maxRecDepth 100000
abbrev ja : Jb := (0, 0, 20, 5)
abbrev jb : Jb := (0, 0, 7, 5)
abbrev jc : Jb := (0, 0, 4, 5)
abbrev J0 : List Jb := [ja, jb]
abbrev J1 : List Jb := [ja, jc]
abbrev S0 : List (Wt × Int) := [((jb, 1), 0), ((ja, 0), 5)]
abbrev S1 : List (Wt × Int) := [((jc, 1), 0), ((ja, 0), 5)]
theorem sends0 : Sends 1 (idxJ J0) 0 S0 := by
  show Sends 1 [(ja, 0), (jb, 1)] 0 S0
  refine .cons (R' := [(ja, 0)]) (.swap _ _ _) (.inl ⟨rfl, (ja, 0), by simp, by decide⟩) (by decide) ?_ ?_
  · intro u hu _
    rcases List.mem_cons.1 hu with rfl | hu
    · decide
    · rw [List.mem_singleton.1 hu]; decide
  · refine .cons (R' := []) (.refl _) (.inl ⟨rfl, (ja, 0), by simp, by decide⟩) (by decide) ?_ (.nil _)
    intro u hu _
    rw [List.mem_singleton.1 hu]; decide
theorem sends1 : Sends 1 (idxJ J1) 0 S1 := by
  show Sends 1 [(ja, 0), (jc, 1)] 0 S1
  refine .cons (R' := [(ja, 0)]) (.swap _ _ _) (.inl ⟨rfl, (ja, 0), by simp, by decide⟩) (by decide) ?_ ?_
  · intro u hu _
    rcases List.mem_cons.1 hu with rfl | hu
    · decide
    · rw [List.mem_singleton.1 hu]; decide
  · refine .cons (R' := []) (.refl _) (.inl ⟨rfl, (ja, 0), by simp, by decide⟩) (by decide) ?_ (.nil _)
    intro u hu _
    rw [List.mem_singleton.1 hu]; decide
theorem only0 {S : List (Wt × Int)} (h : Sends 1 (idxJ J0) 0 S) : S = S0 := h.one (.refl _) (idx_nodup _) sends0
theorem only1 {S : List (Wt × Int)} (h : Sends 1 (idxJ J1) 0 S) : S = S1 := h.one (.refl _) (idx_nodup _) sends1
theorem srt0 : srtI (latesOf S0) = [] := by
  have : latesOf S0 = [] := by decide
  rw [this]; exact (srtI_eq .nil (.refl _)).symm
theorem srt1 : srtI (latesOf S1) = [1] := by
  have : latesOf S1 = [1] := by decide
  rw [this]; exact (srtI_eq (List.pairwise_singleton _ _) (.refl _)).symm
/-- One cell of a row. -/
theorem cell_in (pre C post : List AVal) (k : Nat) (h : k < C.length) : (pre ++ (C ++ post)).getD (pre.length + k) .undef = C.getD k .undef ∧ pre.length + k < (pre ++ (C ++ post)).length := by
  refine ⟨?_, by simp only [List.length_append]; omega⟩
  rw [List.getD_eq_getElem?_getD, List.getElem?_append_right (by omega), Nat.add_sub_cancel_left, List.getElem?_append_left h, List.getD_eq_getElem?_getD]
set_option maxHeartbeats 4000000 in
theorem live_spec (G : Nat → AVal) : Ans G 8 [] (.bool true) := by
  intro m
  refine callWP_body Try.func8 rfl (N := 131) rfl (rs := [.tmp 0]) rfl en_8 (of_decide_eq_true rfl) ?_
  repeat' (first | exact tf0 ‹_› | exact tf1 ‹_› | exact False.elim ‹_› | (with_reducible refine Al.intro ?_; intro pb hpb; (try simp only [hupd_none'] at hpb); (repeat rcases hpb with ⟨⟨hpx, hpy⟩, hpb⟩)) | with_reducible refine need ?_ | ((with_reducible first | refine frk0 ?_ ?_ | refine frk1 ?_ ?_ | refine frk2 ?_ ?_ | refine frk3 ?_ ?_ | refine frk4 ?_ ?_ | refine frk5 ?_ ?_ | refine frk6 ?_ ?_ | refine frk7 ?_ ?_ | refine frk8 ?_ ?_ | refine frk9 ?_ ?_) <;> intro h <;> try (exfalso; omega)) | with_reducible refine quiet_and ?_ ?_ | with_reducible refine awp_drawnA mixed (by decide +kernel) ?_ | ((fail_if_success with_reducible refine stp ?_); simp -implicitDefEqProofs only [go_sem, Nat.reduceEqDiff, Nat.reduceAdd, Nat.reduceLT, Nat.reduceMul, Nat.reduceSub, Nat.reduceLeDiff, ↓reduceIte, reduceCtorEq, ↓String.reduceEq, String.reduceNe, Int.reduceToNat, Int.reduceLT, Int.reduceLE, Int.reduceGT, Int.reduceGE, Int.reduceEq, Int.reduceNe, Int.reduceBEq, Int.reduceBNe, Int.reduceAdd, Int.reduceSub, Int.reduceMul, Int.reduceNeg,  *]))
  obtain ⟨M1, hM1⟩ : ∃ M1, M1 = hupd m pb (.cells [.int .i64 0, .int .i64 0, .int .i64 20, .int .i64 5, .int .i64 0, .int .i64 0, .int .i64 7, .int .i64 5] 8) := ⟨_, rfl⟩
  have rowJ : M1 pb = some (.cells [.int .i64 0, .int .i64 0, .int .i64 20, .int .i64 5, .int .i64 0, .int .i64 0, .int .i64 7, .int .i64 5] 8) := by rw [hM1, hupd_at, if_pos rfl]
  have HJ : Hid (SlM encJc 4 J0 (.slice pb 0 2 2) M1) := .mk (.inr ⟨pb, _, rowJ, [], [], 8, 2, rfl, rfl, by simp, by simp⟩)
  have HM : Hid (Sub m M1) := .mk (by rw [hM1]; exact Sub.fresh (Sub.refl _) hpb)
  have HROW := Hid.mk rowJ
  rw [← hM1]
  clear hM1 hpb rowJ
  refine run_spec G J0 1 _ _ (.inl HJ.out) _ (fun h => absurd (by decide) h) (fun _ S vo m1 hse hso hsub _ => ?_)
  obtain rfl := only0 hse
  obtain ⟨bs, prs, pos, Ns, caps, hbs, hvs, -, -⟩ := hso.at' (by decide)
  subst hvs
  have HRS := Hid.mk hbs
  have HJ1 := Hid.mk (HJ.out.into hsub)
  have HS1 := Hid.mk (subTrans HM.out hsub)
  have HRJ := Hid.mk (hsub _ _ HROW.out)
  clear hse hso hbs HJ HM HROW hsub
  repeat' (first | exact tf0 ‹_› | exact tf1 ‹_› | exact False.elim ‹_› | (with_reducible refine Al.intro ?_; intro pb hpb; (try simp only [hupd_none'] at hpb); (repeat rcases hpb with ⟨⟨hpx, hpy⟩, hpb⟩)) | with_reducible refine need ?_ | ((with_reducible first | refine frk0 ?_ ?_ | refine frk1 ?_ ?_ | refine frk2 ?_ ?_ | refine frk3 ?_ ?_ | refine frk4 ?_ ?_ | refine frk5 ?_ ?_ | refine frk6 ?_ ?_ | refine frk7 ?_ ?_ | refine frk8 ?_ ?_ | refine frk9 ?_ ?_) <;> intro h <;> try (exfalso; omega)) | with_reducible refine quiet_and ?_ ?_ | with_reducible refine awp_drawnA mixed (by decide +kernel) ?_ | ((fail_if_success with_reducible refine stp ?_); simp -implicitDefEqProofs only [go_sem, Nat.reduceEqDiff, Nat.reduceAdd, Nat.reduceLT, Nat.reduceMul, Nat.reduceSub, Nat.reduceLeDiff, ↓reduceIte, reduceCtorEq, ↓String.reduceEq, String.reduceNe, Int.reduceToNat, Int.reduceLT, Int.reduceLE, Int.reduceGT, Int.reduceGE, Int.reduceEq, Int.reduceNe, Int.reduceBEq, Int.reduceBNe, Int.reduceAdd, Int.reduceSub, Int.reduceMul, Int.reduceNeg,  *]))
  refine late_spec G J0 1 _ _ (.inl HJ1.out) _ (fun h => absurd (by decide) h) (fun _ S v2 m2 hse hso hsub _ => ?_)
  obtain rfl := only0 hse
  rw [srt0] at hso
  obtain ⟨c2, o2, p2, rfl⟩ | rfl : (∃ b o c, v2 = .slice b o 0 c) ∨ v2 = .nils := by
    rcases hso.slv with ⟨h, -⟩ | ⟨b, o, c, h⟩
    · exact .inr h
    · exact .inl ⟨b, o, c, h⟩
  all_goals (
    have HJ2 := Hid.mk (HJ1.out.into hsub)
    have HS2 := Hid.mk (subTrans HS1.out hsub)
    have HRS2 := Hid.mk (hsub _ _ HRS.out)
    have HRJ2 := Hid.mk (hsub _ _ HRJ.out)
    clear hse hso hsub HJ1 HS1 HRS HRJ
    repeat' (first | exact tf0 ‹_› | exact tf1 ‹_› | exact False.elim ‹_› | (with_reducible refine Al.intro ?_; intro pb hpb; (try simp only [hupd_none'] at hpb); (repeat rcases hpb with ⟨⟨hpx, hpy⟩, hpb⟩)) | with_reducible refine need ?_ | ((with_reducible first | refine frk0 ?_ ?_ | refine frk1 ?_ ?_ | refine frk2 ?_ ?_ | refine frk3 ?_ ?_ | refine frk4 ?_ ?_ | refine frk5 ?_ ?_ | refine frk6 ?_ ?_ | refine frk7 ?_ ?_ | refine frk8 ?_ ?_ | refine frk9 ?_ ?_) <;> intro h <;> try (exfalso; omega)) | with_reducible refine quiet_and ?_ ?_ | with_reducible refine awp_drawnA mixed (by decide +kernel) ?_ | ((fail_if_success with_reducible refine stp ?_); simp -implicitDefEqProofs only [go_sem, Nat.reduceEqDiff, Nat.reduceAdd, Nat.reduceLT, Nat.reduceMul, Nat.reduceSub, Nat.reduceLeDiff, ↓reduceIte, reduceCtorEq, ↓String.reduceEq, String.reduceNe, Int.reduceToNat, Int.reduceLT, Int.reduceLE, Int.reduceGT, Int.reduceGE, Int.reduceEq, Int.reduceNe, Int.reduceBEq, Int.reduceBNe, Int.reduceAdd, Int.reduceSub, Int.reduceMul, Int.reduceNeg,  *]))
    refine busy_spec G J0 1 3 _ _ (.inl HJ2.out) _ (fun h => absurd (by decide) h) (fun _ S m3 hse hsub => ?_)
    obtain rfl := only0 hse
    rw [show busyF S0 3 = 10 by decide]
    have HJ3 := Hid.mk (HJ2.out.into hsub)
    have HS3 := Hid.mk (subTrans HS2.out hsub)
    have HRS3 := Hid.mk (hsub _ _ HRS2.out)
    have HRJ3 := Hid.mk (hsub _ _ HRJ2.out)
    clear hse hsub HJ2 HS2 HRS2 HRJ2
    repeat' (first | exact tf0 ‹_› | exact tf1 ‹_› | exact False.elim ‹_› | (with_reducible refine Al.intro ?_; intro pb hpb; (try simp only [hupd_none'] at hpb); (repeat rcases hpb with ⟨⟨hpx, hpy⟩, hpb⟩)) | with_reducible refine need ?_ | ((with_reducible first | refine frk0 ?_ ?_ | refine frk1 ?_ ?_ | refine frk2 ?_ ?_ | refine frk3 ?_ ?_ | refine frk4 ?_ ?_ | refine frk5 ?_ ?_ | refine frk6 ?_ ?_ | refine frk7 ?_ ?_ | refine frk8 ?_ ?_ | refine frk9 ?_ ?_) <;> intro h <;> try (exfalso; omega)) | with_reducible refine quiet_and ?_ ?_ | with_reducible refine awp_drawnA mixed (by decide +kernel) ?_ | ((fail_if_success with_reducible refine stp ?_); simp -implicitDefEqProofs only [go_sem, Nat.reduceEqDiff, Nat.reduceAdd, Nat.reduceLT, Nat.reduceMul, Nat.reduceSub, Nat.reduceLeDiff, ↓reduceIte, reduceCtorEq, ↓String.reduceEq, String.reduceNe, Int.reduceToNat, Int.reduceLT, Int.reduceLE, Int.reduceGT, Int.reduceGE, Int.reduceEq, Int.reduceNe, Int.reduceBEq, Int.reduceBNe, Int.reduceAdd, Int.reduceSub, Int.reduceMul, Int.reduceNeg,  *]))
    refine run_spec G J0 0 _ _ (.inl HJ3.out) _ (fun _ => ?_) (fun h => absurd h (by decide))
    rw [show checkF J0 0 = 1 by decide]
    repeat' (first | exact tf0 ‹_› | exact tf1 ‹_› | exact False.elim ‹_› | (with_reducible refine Al.intro ?_; intro pb hpb; (try simp only [hupd_none'] at hpb); (repeat rcases hpb with ⟨⟨hpx, hpy⟩, hpb⟩)) | with_reducible refine need ?_ | ((with_reducible first | refine frk0 ?_ ?_ | refine frk1 ?_ ?_ | refine frk2 ?_ ?_ | refine frk3 ?_ ?_ | refine frk4 ?_ ?_ | refine frk5 ?_ ?_ | refine frk6 ?_ ?_ | refine frk7 ?_ ?_ | refine frk8 ?_ ?_ | refine frk9 ?_ ?_) <;> intro h <;> try (exfalso; omega)) | with_reducible refine quiet_and ?_ ?_ | with_reducible refine awp_drawnA mixed (by decide +kernel) ?_ | ((fail_if_success with_reducible refine stp ?_); simp -implicitDefEqProofs only [go_sem, Nat.reduceEqDiff, Nat.reduceAdd, Nat.reduceLT, Nat.reduceMul, Nat.reduceSub, Nat.reduceLeDiff, ↓reduceIte, reduceCtorEq, ↓String.reduceEq, String.reduceNe, Int.reduceToNat, Int.reduceLT, Int.reduceLE, Int.reduceGT, Int.reduceGE, Int.reduceEq, Int.reduceNe, Int.reduceBEq, Int.reduceBNe, Int.reduceAdd, Int.reduceSub, Int.reduceMul, Int.reduceNeg,  *]))
    rename Nat => pc
    rename m3 pc = none => hpc
    obtain ⟨M4, hM4⟩ : ∃ M4, M4 = hupd m3 pc (.cells [.int .i64 0, .int .i64 0, .int .i64 20, .int .i64 5, .int .i64 0, .int .i64 0, .int .i64 4, .int .i64 5] 8) := ⟨_, rfl⟩
    have rowJ : M4 pc = some (.cells [.int .i64 0, .int .i64 0, .int .i64 20, .int .i64 5, .int .i64 0, .int .i64 0, .int .i64 4, .int .i64 5] 8) := by rw [hM4, hupd_at, if_pos rfl]
    have sub4 : Sub m3 M4 := by rw [hM4]; exact Sub.fresh (Sub.refl _) hpc
    have HJ4 : Hid (SlM encJc 4 J1 (.slice pc 0 2 2) M4) := .mk (.inr ⟨pc, _, rowJ, [], [], 8, 2, rfl, rfl, by simp, by simp⟩)
    have HS4 := Hid.mk (subTrans HS3.out sub4)
    have HRS4 := Hid.mk (sub4 _ _ HRS3.out)
    have HRJ4 := Hid.mk (sub4 _ _ HRJ3.out)
    rw [← hM4]
    clear hM4 rowJ sub4 HJ3 HS3 HRS3 HRJ3 hpc
    refine late_spec G J1 1 _ _ (.inl HJ4.out) _ (fun h => absurd (by decide) h) (fun _ S v5 m5 hse hso hsub _ => ?_)
    obtain rfl := only1 hse
    rw [srt1] at hso
    obtain ⟨bl, prl, pol, Nl, capl, hbl, hvl, -, -⟩ := hso.at' (by decide)
    subst hvl
    have HS5 := Hid.mk (subTrans HS4.out hsub)
    have hrs := hsub _ _ HRS4.out
    have hrj := hsub _ _ HRJ4.out
    clear hse hso hsub HJ4 HS4 HRS4 HRJ4
    have a0 := cell_in prs (S0.flatMap encSt) pos 0 (by decide)
    have a2 := cell_in prs (S0.flatMap encSt) pos 2 (by decide)
    have a4 := cell_in prs (S0.flatMap encSt) pos 4 (by decide)
    have b0 := cell_in prl ([(1 : Int)].flatMap encN) pol 0 (by decide)
    obtain ⟨R, hR⟩ : ∃ R, R = prs ++ (S0.flatMap encSt ++ pos) := ⟨_, rfl⟩
    obtain ⟨Q, hQ⟩ : ∃ Q, Q = prl ++ ([(1 : Int)].flatMap encN ++ pol) := ⟨_, rfl⟩
    rw [← hR] at a0 a2 a4 hrs
    rw [← hQ] at b0 hbl
    obtain ⟨o, ho⟩ : ∃ o, o = prs.length := ⟨_, rfl⟩
    obtain ⟨q, hq⟩ : ∃ q, q = prl.length := ⟨_, rfl⟩
    rw [← ho] at a0 a2 a4 ⊢
    rw [← hq] at b0 ⊢
    clear hR hQ ho hq
    obtain ⟨a0, la0⟩ := a0
    obtain ⟨a2, la2⟩ := a2
    obtain ⟨a4, la4⟩ := a4
    obtain ⟨b0, lb0⟩ := b0
    rw [Nat.add_zero] at a0 la0 b0 lb0
    rw [show (S0.flatMap encSt).getD 0 .undef = .int .i64 1 from rfl] at a0
    rw [show (S0.flatMap encSt).getD 2 .undef = .int .i64 5 from rfl] at a2
    rw [show (S0.flatMap encSt).getD 4 .undef = .int .i64 5 from rfl] at a4
    rw [show ([(1 : Int)].flatMap encN).getD 0 .undef = .int .i64 1 from rfl] at b0
    have a5 : R.getD (o + 3 + 1) .undef = .int .i64 5 := a4
    have la5 : o + 3 + 1 < R.length := la4
    repeat' (first | exact tf0 ‹_› | exact tf1 ‹_› | exact False.elim ‹_› | (with_reducible refine Al.intro ?_; intro pb hpb; (try simp only [hupd_none'] at hpb); (repeat rcases hpb with ⟨⟨hpx, hpy⟩, hpb⟩)) | with_reducible refine need ?_ | ((with_reducible first | refine frk0 ?_ ?_ | refine frk1 ?_ ?_ | refine frk2 ?_ ?_ | refine frk3 ?_ ?_ | refine frk4 ?_ ?_ | refine frk5 ?_ ?_ | refine frk6 ?_ ?_ | refine frk7 ?_ ?_ | refine frk8 ?_ ?_ | refine frk9 ?_ ?_) <;> intro h <;> try (exfalso; omega)) | with_reducible refine quiet_and ?_ ?_ | with_reducible refine awp_drawnA mixed (by decide +kernel) ?_ | ((fail_if_success with_reducible refine stp ?_); simp -implicitDefEqProofs only [go_sem, Nat.reduceEqDiff, Nat.reduceAdd, Nat.reduceLT, Nat.reduceMul, Nat.reduceSub, Nat.reduceLeDiff, ↓reduceIte, reduceCtorEq, ↓String.reduceEq, String.reduceNe, Int.reduceToNat, Int.reduceLT, Int.reduceLE, Int.reduceGT, Int.reduceGE, Int.reduceEq, Int.reduceNe, Int.reduceBEq, Int.reduceBNe, Int.reduceAdd, Int.reduceSub, Int.reduceMul, Int.reduceNeg,  *]))
    refine CallWP.to (right_spec G ja _) ?_
    rw [show rightJ ja = true by decide]
    repeat' (first | exact tf0 ‹_› | exact tf1 ‹_› | exact False.elim ‹_› | (with_reducible refine Al.intro ?_; intro pb hpb; (try simp only [hupd_none'] at hpb); (repeat rcases hpb with ⟨⟨hpx, hpy⟩, hpb⟩)) | with_reducible refine need ?_ | ((with_reducible first | refine frk0 ?_ ?_ | refine frk1 ?_ ?_ | refine frk2 ?_ ?_ | refine frk3 ?_ ?_ | refine frk4 ?_ ?_ | refine frk5 ?_ ?_ | refine frk6 ?_ ?_ | refine frk7 ?_ ?_ | refine frk8 ?_ ?_ | refine frk9 ?_ ?_) <;> intro h <;> try (exfalso; omega)) | with_reducible refine quiet_and ?_ ?_ | with_reducible refine awp_drawnA mixed (by decide +kernel) ?_ | ((fail_if_success with_reducible refine stp ?_); simp -implicitDefEqProofs only [go_sem, Nat.reduceEqDiff, Nat.reduceAdd, Nat.reduceLT, Nat.reduceMul, Nat.reduceSub, Nat.reduceLeDiff, ↓reduceIte, reduceCtorEq, ↓String.reduceEq, String.reduceNe, Int.reduceToNat, Int.reduceLT, Int.reduceLE, Int.reduceGT, Int.reduceGE, Int.reduceEq, Int.reduceNe, Int.reduceBEq, Int.reduceBNe, Int.reduceAdd, Int.reduceSub, Int.reduceMul, Int.reduceNeg,  *]))
    refine CallWP.to (ahead_spec G 1 jb ja _) ?_
    rw [show aheadF 1 jb ja = true by decide]
    repeat' (first | exact tf0 ‹_› | exact tf1 ‹_› | exact False.elim ‹_› | (with_reducible refine Al.intro ?_; intro pb hpb; (try simp only [hupd_none'] at hpb); (repeat rcases hpb with ⟨⟨hpx, hpy⟩, hpb⟩)) | with_reducible refine need ?_ | ((with_reducible first | refine frk0 ?_ ?_ | refine frk1 ?_ ?_ | refine frk2 ?_ ?_ | refine frk3 ?_ ?_ | refine frk4 ?_ ?_ | refine frk5 ?_ ?_ | refine frk6 ?_ ?_ | refine frk7 ?_ ?_ | refine frk8 ?_ ?_ | refine frk9 ?_ ?_) <;> intro h <;> try (exfalso; omega)) | with_reducible refine quiet_and ?_ ?_ | with_reducible refine awp_drawnA mixed (by decide +kernel) ?_ | ((fail_if_success with_reducible refine stp ?_); simp -implicitDefEqProofs only [go_sem, Nat.reduceEqDiff, Nat.reduceAdd, Nat.reduceLT, Nat.reduceMul, Nat.reduceSub, Nat.reduceLeDiff, ↓reduceIte, reduceCtorEq, ↓String.reduceEq, String.reduceNe, Int.reduceToNat, Int.reduceLT, Int.reduceLE, Int.reduceGT, Int.reduceGE, Int.reduceEq, Int.reduceNe, Int.reduceBEq, Int.reduceBNe, Int.reduceAdd, Int.reduceSub, Int.reduceMul, Int.reduceNeg,  *]))
    refine CallWP.to (ahead_spec G 1 ja jb _) ?_
    rw [show aheadF 1 ja jb = false by decide]
    repeat' (first | exact tf0 ‹_› | exact tf1 ‹_› | exact False.elim ‹_› | (with_reducible refine Al.intro ?_; intro pb hpb; (try simp only [hupd_none'] at hpb); (repeat rcases hpb with ⟨⟨hpx, hpy⟩, hpb⟩)) | with_reducible refine need ?_ | ((with_reducible first | refine frk0 ?_ ?_ | refine frk1 ?_ ?_ | refine frk2 ?_ ?_ | refine frk3 ?_ ?_ | refine frk4 ?_ ?_ | refine frk5 ?_ ?_ | refine frk6 ?_ ?_ | refine frk7 ?_ ?_ | refine frk8 ?_ ?_ | refine frk9 ?_ ?_) <;> intro h <;> try (exfalso; omega)) | with_reducible refine quiet_and ?_ ?_ | with_reducible refine awp_drawnA mixed (by decide +kernel) ?_ | ((fail_if_success with_reducible refine stp ?_); simp -implicitDefEqProofs only [go_sem, Nat.reduceEqDiff, Nat.reduceAdd, Nat.reduceLT, Nat.reduceMul, Nat.reduceSub, Nat.reduceLeDiff, ↓reduceIte, reduceCtorEq, ↓String.reduceEq, String.reduceNe, Int.reduceToNat, Int.reduceLT, Int.reduceLE, Int.reduceGT, Int.reduceGE, Int.reduceEq, Int.reduceNe, Int.reduceBEq, Int.reduceBNe, Int.reduceAdd, Int.reduceSub, Int.reduceMul, Int.reduceNeg,  *]))
    exact ⟨m, HS5.out, rfl, rfl⟩)
end Go.Proofs.Ytmifapnmlhchlaa
