/- The program's queue: Put. -/
import Derived.Test.YtcdhihoghkkahaaQ5
set_option linter.all false
namespace Go.Proofs.Ytcdhihoghkkahaa
open Go Go.Proofs.Ytcdhihoghkkahaa.Ab
open Go.Proofs (Try.prog)
set_option maxRecDepth 100000
def sortE (L : List Ent) : List Ent := L.mergeSort (fun a b => !ltOf cmpE b a)
theorem leE_trans (a b c : Ent) (h1 : ltOf cmpE b a = false) (h2 : ltOf cmpE c b = false) : ltOf cmpE c a = false := swoE.ntrans c b a h2 h1
theorem leE_total (a b : Ent) : ltOf cmpE b a = false ∨ ltOf cmpE a b = false := by
  simp only [ltE_false]; unfold LE L4; omega
theorem leE_anti (a b : Ent) (h1 : ltOf cmpE b a = false) (h2 : ltOf cmpE a b = false) : a = b := by
  rw [ltE_false] at *
  unfold LE L4 at *
  obtain ⟨⟨a1, a2, a3, a4⟩, a5⟩ := a
  obtain ⟨⟨b1, b2, b3, b4⟩, b5⟩ := b
  simp only at h1 h2
  simp only [Prod.mk.injEq]
  omega
theorem sortE_perm (L : List Ent) : (sortE L).Perm L := List.mergeSort_perm L _
theorem sortE_srt (L : List Ent) : (sortE L).Pairwise (fun a b => ltOf cmpE b a = false) := by
  have := List.pairwise_mergeSort (le := fun a b : Ent => !ltOf cmpE b a) (fun a b c h1 h2 => by simp only [Bool.not_eq_true'] at *; exact leE_trans a b c h1 h2) (fun a b => by rcases leE_total a b with h | h <;> simp [h]) L
  exact this.imp (by simp)
theorem sortE_eq {C L : List Ent} (hp : C.Perm L) (hs : Srt (ltOf cmpE) C) : C = sortE L := by
  refine List.Perm.eq_of_pairwise (le := fun a b : Ent => ltOf cmpE b a = false) (fun a b _ _ h1 h2 => leE_anti a b h1 h2) hs (sortE_srt L) (hp.trans (sortE_perm L).symm)
theorem sortE_len (L : List Ent) : (sortE L).length = L.length := (sortE_perm L).length_eq
def putF (L : List Ent) (n : Nat) (e : Ent) : Int × List Ent := if rightF e.1 = false then (1, L) else if idxI L e.2 ≥ 0 then (13, L) else if n ≤ L.length then (6, L) else (0, sortE (L ++ [e]))
theorem slv_ne {v : AVal} {p : Nat} (h : blkOf v ≠ some p) : ∀ b o l c, v = .slice b o l c → b ≠ p := fun b o l c e => by rw [e] at h; simpa [blkOf] using h
set_option maxHeartbeats 1000000 in
theorem put_spec (G : Nat → AVal) {m : Heap} {p : Nat} {v : AVal} {n : Nat} {L : List Ent} (h : QP m p v n L) (e : Ent) (K : AVal → Heap → Prop)
    (hK : ∀ v' m', QP m' p v' n (putF L n e).2 → Fq p v m v' m' → K (.int .i64 (putF L n e).1) m') : CallWP Try.prog G 24 [.ptr p 0, encE e] m K := by
  have hQ := Hid.mk h
  have hat := Hid.mk (fun m (h : QP m p v n L) => at_spec G h e.2)
  have hm := h.at_
  have nl := neL hm
  have nr := neR hm
  have HK := Hid.mk hK
  clear hK
  have l1 := h.len
  have l2 := h.n64
  have hv := slv_len h.row
  clear h
  refine callWP_body Try.func24 rfl (N := 48) rfl (rs := [.tmp 4]) rfl en_24 (of_decide_eq_true rfl) ?_
  have hv' : ∃ x : Nat, x = L.length ∧ ((v = .nils ∧ x = 0) ∨ ∃ b o cap, v = .slice b o x cap) := ⟨L.length, rfl, by rcases hv with ⟨h1, h2⟩ | h1; exact .inl ⟨h1, by rw [h2]; rfl⟩; exact .inr h1⟩
  obtain ⟨x, hx, hv'⟩ := hv'
  have HX := Hid.mk hx
  obtain ⟨vv, hvv⟩ : ∃ vv, vv = v := ⟨_, rfl⟩
  have HV := Hid.mk hvv
  clear hv hx hvv
  rcases hv' with ⟨rfl, rfl⟩ | ⟨b0, o0, cap0, rfl⟩
  all_goals (
    repeat' (first | exact absurd ‹true = false› Bool.noConfusion | exact absurd ‹false = true› Bool.noConfusion | exact False.elim ‹False› | (with_reducible refine Al.intro ?_; intro pb hpb; (try simp only [hupd_none'] at hpb); (repeat rcases hpb with ⟨⟨hpx, hpy⟩, hpb⟩)) | with_reducible refine Need.intro (by first | omega | (with_reducible assumption) | (simp only [List.length_map, List.length_cons, List.length_nil]; omega) | (refine ⟨?_, ?_⟩ <;> omega) | (refine ⟨?_, ?_, ?_⟩ <;> omega) | (simp; done) | (simp; omega)) ?_ | (with_reducible refine condA_dec _ _ _ (fun h => ?_) (fun h => ?_) <;> try (exfalso; omega)) | (with_reducible refine condA_beq _ _ _ _ (fun h => ?_) (fun h => ?_) <;> try (exfalso; omega)) | (with_reducible refine condA_bne _ _ _ _ (fun h => ?_) (fun h => ?_) <;> try (exfalso; omega)) | (with_reducible refine condA_nt _ _ _ (fun h => ?_) (fun h => ?_) <;> try (exfalso; omega)) | (with_reducible refine condA_bool _ _ _ (fun h => ?_) (fun h => ?_) <;> try (exfalso; omega)) | (with_reducible refine gV_dec _ _ _ _ (fun h => ?_) (fun h => ?_) <;> try (exfalso; omega)) | (with_reducible refine gV_beq _ _ _ _ _ (fun h => ?_) (fun h => ?_) <;> try (exfalso; omega)) | (with_reducible refine gV_bne _ _ _ _ _ (fun h => ?_) (fun h => ?_) <;> try (exfalso; omega)) | (with_reducible refine gV_true _ _ _ (fun h => ?_) (fun h => ?_) <;> try (exfalso; omega)) | (with_reducible refine gV_false _ _ _ (fun h => ?_) (fun h => ?_) <;> try (exfalso; omega)) | with_reducible refine quiet_and ?_ ?_ | with_reducible refine awp_drawnA mixed (by decide +kernel) ?_ | ((fail_if_success with_reducible refine isCall ?_); (fail_if_success with_reducible refine isAWP ?_); (fail_if_success with_reducible refine isPart ?_); (fail_if_success with_reducible refine isAgain ?_); (fail_if_success with_reducible refine isApp ?_); (fail_if_success with_reducible refine isQuiet ?_); simp -implicitDefEqProofs only [go_sem, Nat.reduceEqDiff, Nat.reduceAdd, Nat.reduceLT, Nat.reduceMul, Nat.reduceSub, Nat.reduceLeDiff, ↓reduceIte, reduceCtorEq, ↓String.reduceEq, String.reduceNe, Int.reduceToNat, Int.reduceLT, Int.reduceLE, Int.reduceGT, Int.reduceGE, Int.reduceEq, Int.reduceNe, Int.reduceBEq, Int.reduceBNe, Int.reduceAdd, Int.reduceSub, Int.reduceMul, Int.reduceNeg, Int.toNat_natCast, Int.toNat_zero, Int.cast_ofNat_Int, Nat.mul_one, Nat.zero_mul, Nat.reduceEqDiff, Int.le_refl, decide_true, decide_false, and_self, bne_self_eq_false, bne_iff_ne, beq_iff_eq, ne_eq, not_false_eq_true, not_true_eq_false,  encE, ↓runOps_appc, ↓runOps_appn, app_cons, app_nil, anil, aclear, abound, Option.isSome_some, Option.isSome_none, Nat.sub_zero, run_eff, rep_0, rep_1, rep_2, rep_3, autoOrd, ordG, effs, isLook, isEff, Stab_none, exitA_ret, exitA_normal, exitA_goto, exitA_exit, ↓run_scope, ↓run_goto, ↓run_label, thenA_goto, blockA_goto, jumpA_normal, jumpA_ret, jumpA_exit, jumpA_goto, List.take_succ_cons, *]))
    refine CallWP.to (right_spec G e.1 _) ?_
    repeat' (first | exact absurd ‹true = false› Bool.noConfusion | exact absurd ‹false = true› Bool.noConfusion | exact False.elim ‹False› | (with_reducible refine Al.intro ?_; intro pb hpb; (try simp only [hupd_none'] at hpb); (repeat rcases hpb with ⟨⟨hpx, hpy⟩, hpb⟩)) | with_reducible refine Need.intro (by first | omega | (with_reducible assumption) | (simp only [List.length_map, List.length_cons, List.length_nil]; omega) | (refine ⟨?_, ?_⟩ <;> omega) | (refine ⟨?_, ?_, ?_⟩ <;> omega) | (simp; done) | (simp; omega)) ?_ | (with_reducible refine condA_dec _ _ _ (fun h => ?_) (fun h => ?_) <;> try (exfalso; omega)) | (with_reducible refine condA_beq _ _ _ _ (fun h => ?_) (fun h => ?_) <;> try (exfalso; omega)) | (with_reducible refine condA_bne _ _ _ _ (fun h => ?_) (fun h => ?_) <;> try (exfalso; omega)) | (with_reducible refine condA_nt _ _ _ (fun h => ?_) (fun h => ?_) <;> try (exfalso; omega)) | (with_reducible refine condA_bool _ _ _ (fun h => ?_) (fun h => ?_) <;> try (exfalso; omega)) | (with_reducible refine gV_dec _ _ _ _ (fun h => ?_) (fun h => ?_) <;> try (exfalso; omega)) | (with_reducible refine gV_beq _ _ _ _ _ (fun h => ?_) (fun h => ?_) <;> try (exfalso; omega)) | (with_reducible refine gV_bne _ _ _ _ _ (fun h => ?_) (fun h => ?_) <;> try (exfalso; omega)) | (with_reducible refine gV_true _ _ _ (fun h => ?_) (fun h => ?_) <;> try (exfalso; omega)) | (with_reducible refine gV_false _ _ _ (fun h => ?_) (fun h => ?_) <;> try (exfalso; omega)) | with_reducible refine quiet_and ?_ ?_ | with_reducible refine awp_drawnA mixed (by decide +kernel) ?_ | ((fail_if_success with_reducible refine isCall ?_); (fail_if_success with_reducible refine isAWP ?_); (fail_if_success with_reducible refine isPart ?_); (fail_if_success with_reducible refine isAgain ?_); (fail_if_success with_reducible refine isApp ?_); (fail_if_success with_reducible refine isQuiet ?_); simp -implicitDefEqProofs only [go_sem, Nat.reduceEqDiff, Nat.reduceAdd, Nat.reduceLT, Nat.reduceMul, Nat.reduceSub, Nat.reduceLeDiff, ↓reduceIte, reduceCtorEq, ↓String.reduceEq, String.reduceNe, Int.reduceToNat, Int.reduceLT, Int.reduceLE, Int.reduceGT, Int.reduceGE, Int.reduceEq, Int.reduceNe, Int.reduceBEq, Int.reduceBNe, Int.reduceAdd, Int.reduceSub, Int.reduceMul, Int.reduceNeg, Int.toNat_natCast, Int.toNat_zero, Int.cast_ofNat_Int, Nat.mul_one, Nat.zero_mul, Nat.reduceEqDiff, Int.le_refl, decide_true, decide_false, and_self, bne_self_eq_false, bne_iff_ne, beq_iff_eq, ne_eq, not_false_eq_true, not_true_eq_false,  encE, ↓runOps_appc, ↓runOps_appn, app_cons, app_nil, anil, aclear, abound, Option.isSome_some, Option.isSome_none, Nat.sub_zero, run_eff, rep_0, rep_1, rep_2, rep_3, autoOrd, ordG, effs, isLook, isEff, Stab_none, exitA_ret, exitA_normal, exitA_goto, exitA_exit, ↓run_scope, ↓run_goto, ↓run_label, thenA_goto, blockA_goto, jumpA_normal, jumpA_ret, jumpA_exit, jumpA_goto, List.take_succ_cons, *])))
  case inl.refine_1 | inr.refine_1 =>
    have hr : rightF e.1 = false := by assumption
    have e1 : putF L n e = (1, L) := by unfold putF; rw [if_pos hr]
    have KK := Hid.mk HK.out
    rw [e1] at KK
    exact ⟨m, Sub.fresh (Sub.refl _) hpb, KK.out _ _ hQ.out (Fq.refl _ _ _)⟩
  all_goals (
    have hr : ¬ rightF e.1 = false := by simp only [Bool.not_eq_false]; assumption
    have HR := Hid.mk hr
    clear hr
    refine CallWP.to (hat.out _ (hQ.out.fresh _ hpb)) ?_
    repeat' (first | exact absurd ‹true = false› Bool.noConfusion | exact absurd ‹false = true› Bool.noConfusion | exact False.elim ‹False› | (with_reducible refine Al.intro ?_; intro pb hpb; (try simp only [hupd_none'] at hpb); (repeat rcases hpb with ⟨⟨hpx, hpy⟩, hpb⟩)) | with_reducible refine Need.intro (by first | omega | (with_reducible assumption) | (simp only [List.length_map, List.length_cons, List.length_nil]; omega) | (refine ⟨?_, ?_⟩ <;> omega) | (refine ⟨?_, ?_, ?_⟩ <;> omega) | (simp; done) | (simp; omega)) ?_ | (with_reducible refine condA_dec _ _ _ (fun h => ?_) (fun h => ?_) <;> try (exfalso; omega)) | (with_reducible refine condA_beq _ _ _ _ (fun h => ?_) (fun h => ?_) <;> try (exfalso; omega)) | (with_reducible refine condA_bne _ _ _ _ (fun h => ?_) (fun h => ?_) <;> try (exfalso; omega)) | (with_reducible refine condA_nt _ _ _ (fun h => ?_) (fun h => ?_) <;> try (exfalso; omega)) | (with_reducible refine condA_bool _ _ _ (fun h => ?_) (fun h => ?_) <;> try (exfalso; omega)) | (with_reducible refine gV_dec _ _ _ _ (fun h => ?_) (fun h => ?_) <;> try (exfalso; omega)) | (with_reducible refine gV_beq _ _ _ _ _ (fun h => ?_) (fun h => ?_) <;> try (exfalso; omega)) | (with_reducible refine gV_bne _ _ _ _ _ (fun h => ?_) (fun h => ?_) <;> try (exfalso; omega)) | (with_reducible refine gV_true _ _ _ (fun h => ?_) (fun h => ?_) <;> try (exfalso; omega)) | (with_reducible refine gV_false _ _ _ (fun h => ?_) (fun h => ?_) <;> try (exfalso; omega)) | with_reducible refine quiet_and ?_ ?_ | with_reducible refine awp_drawnA mixed (by decide +kernel) ?_ | ((fail_if_success with_reducible refine isCall ?_); (fail_if_success with_reducible refine isAWP ?_); (fail_if_success with_reducible refine isPart ?_); (fail_if_success with_reducible refine isAgain ?_); (fail_if_success with_reducible refine isApp ?_); (fail_if_success with_reducible refine isQuiet ?_); simp -implicitDefEqProofs only [go_sem, Nat.reduceEqDiff, Nat.reduceAdd, Nat.reduceLT, Nat.reduceMul, Nat.reduceSub, Nat.reduceLeDiff, ↓reduceIte, reduceCtorEq, ↓String.reduceEq, String.reduceNe, Int.reduceToNat, Int.reduceLT, Int.reduceLE, Int.reduceGT, Int.reduceGE, Int.reduceEq, Int.reduceNe, Int.reduceBEq, Int.reduceBNe, Int.reduceAdd, Int.reduceSub, Int.reduceMul, Int.reduceNeg, Int.toNat_natCast, Int.toNat_zero, Int.cast_ofNat_Int, Nat.mul_one, Nat.zero_mul, Nat.reduceEqDiff, Int.le_refl, decide_true, decide_false, and_self, bne_self_eq_false, bne_iff_ne, beq_iff_eq, ne_eq, not_false_eq_true, not_true_eq_false,  encE, ↓runOps_appc, ↓runOps_appn, app_cons, app_nil, anil, aclear, abound, Option.isSome_some, Option.isSome_none, Nat.sub_zero, run_eff, rep_0, rep_1, rep_2, rep_3, autoOrd, ordG, effs, isLook, isEff, Stab_none, exitA_ret, exitA_normal, exitA_goto, exitA_exit, ↓run_scope, ↓run_goto, ↓run_label, thenA_goto, blockA_goto, jumpA_normal, jumpA_ret, jumpA_exit, jumpA_goto, List.take_succ_cons, *])))
  case inl.refine_2.refine_1 | inr.refine_2.refine_1 =>
    have hi : idxI L e.2 ≥ 0 := by assumption
    have e1 : putF L n e = (13, L) := by unfold putF; rw [if_neg HR.out, if_pos hi]
    have KK := Hid.mk HK.out
    rw [e1] at KK
    exact ⟨m, Sub.fresh (Sub.refl _) hpb, KK.out _ _ hQ.out (Fq.refl _ _ _)⟩
  case inl.refine_2.refine_2.refine_1 | inr.refine_2.refine_2.refine_1 =>
    have hi : ¬ idxI L e.2 ≥ 0 := by assumption
    have hl : n ≤ L.length := by have := HX.out; omega
    have e1 : putF L n e = (6, L) := by unfold putF; rw [if_neg HR.out, if_neg hi, if_pos hl]
    have KK := Hid.mk HK.out
    rw [e1] at KK
    exact ⟨m, Sub.fresh (Sub.refl _) hpb, KK.out _ _ hQ.out (Fq.refl _ _ _)⟩
  all_goals (
    have hi : ¬ idxI L e.2 ≥ 0 := by assumption
    have hl : ¬ n ≤ L.length := by have := HX.out; omega
    have e1 : putF L n e = (0, sortE (L ++ [e])) := by unfold putF; rw [if_neg HR.out, if_neg hi, if_neg hl]
    have KK := Hid.mk HK.out
    rw [e1] at KK
    clear HK HR hi e1
    rename_i pb0 hpb0 _ _
    refine app_step Try.underlying80 tk_45 eb_45 zl_45 (by decide) (by rw [Try.underlying80]; rfl) (by unfold isInt; rw [Try.underlying80]) ?_
    simp only [src, hupd_at, if_true]
    refine ⟨by simp, rfl, ?_⟩
    refine app_to (enc := encC) (C := L) (E := [e]) encC_len ((hQ.out.row.fresh (by assumption)).fresh (by simp only [hupd_none']; exact ⟨⟨by assumption, by assumption⟩, by assumption⟩)) (by simp) (by simp; omega) ?_
    rintro b v' blk hbf ⟨pre, post, N, cap, rfl, rfl, hN, hc⟩
    have hbp : (b ≠ p ∧ p ≠ b) ∧ (m b = none ∨ blkOf vv = some b) := by
      rcases hbf with h | ⟨o, l, c, e⟩
      · simp only [hupd_none'] at h
        exact ⟨(ne_of hm h.2.2).symm, .inl h.2.2⟩
      · have := slv_ne hQ.out.ne _ _ _ _ e
        exact ⟨⟨this, Ne.symm this⟩, .inr (by rw [HV.out, e]; rfl)⟩
    clear hbf
    obtain ⟨⟨hb1, hb2⟩, hb3⟩ := hbp
    have HB := Hid.mk hb3
    have hlen : (L ++ [e]).length = L.length + 1 := by simp
    clear hb3
    repeat' (first | exact absurd ‹true = false› Bool.noConfusion | exact absurd ‹false = true› Bool.noConfusion | exact False.elim ‹False› | (with_reducible refine Al.intro ?_; intro pb hpb; (try simp only [hupd_none'] at hpb); (repeat rcases hpb with ⟨⟨hpx, hpy⟩, hpb⟩)) | with_reducible refine Need.intro (by first | omega | (with_reducible assumption) | (simp only [List.length_map, List.length_cons, List.length_nil]; omega) | (refine ⟨?_, ?_⟩ <;> omega) | (refine ⟨?_, ?_, ?_⟩ <;> omega) | (simp; done) | (simp; omega)) ?_ | (with_reducible refine condA_dec _ _ _ (fun h => ?_) (fun h => ?_) <;> try (exfalso; omega)) | (with_reducible refine condA_beq _ _ _ _ (fun h => ?_) (fun h => ?_) <;> try (exfalso; omega)) | (with_reducible refine condA_bne _ _ _ _ (fun h => ?_) (fun h => ?_) <;> try (exfalso; omega)) | (with_reducible refine condA_nt _ _ _ (fun h => ?_) (fun h => ?_) <;> try (exfalso; omega)) | (with_reducible refine condA_bool _ _ _ (fun h => ?_) (fun h => ?_) <;> try (exfalso; omega)) | (with_reducible refine gV_dec _ _ _ _ (fun h => ?_) (fun h => ?_) <;> try (exfalso; omega)) | (with_reducible refine gV_beq _ _ _ _ _ (fun h => ?_) (fun h => ?_) <;> try (exfalso; omega)) | (with_reducible refine gV_bne _ _ _ _ _ (fun h => ?_) (fun h => ?_) <;> try (exfalso; omega)) | (with_reducible refine gV_true _ _ _ (fun h => ?_) (fun h => ?_) <;> try (exfalso; omega)) | (with_reducible refine gV_false _ _ _ (fun h => ?_) (fun h => ?_) <;> try (exfalso; omega)) | with_reducible refine quiet_and ?_ ?_ | with_reducible refine awp_drawnA mixed (by decide +kernel) ?_ | ((fail_if_success with_reducible refine isCall ?_); (fail_if_success with_reducible refine isAWP ?_); (fail_if_success with_reducible refine isPart ?_); (fail_if_success with_reducible refine isAgain ?_); (fail_if_success with_reducible refine isApp ?_); (fail_if_success with_reducible refine isQuiet ?_); simp -implicitDefEqProofs only [go_sem, Nat.reduceEqDiff, Nat.reduceAdd, Nat.reduceLT, Nat.reduceMul, Nat.reduceSub, Nat.reduceLeDiff, ↓reduceIte, reduceCtorEq, ↓String.reduceEq, String.reduceNe, Int.reduceToNat, Int.reduceLT, Int.reduceLE, Int.reduceGT, Int.reduceGE, Int.reduceEq, Int.reduceNe, Int.reduceBEq, Int.reduceBNe, Int.reduceAdd, Int.reduceSub, Int.reduceMul, Int.reduceNeg, Int.toNat_natCast, Int.toNat_zero, Int.cast_ofNat_Int, Nat.mul_one, Nat.zero_mul, Nat.reduceEqDiff, Int.le_refl, decide_true, decide_false, and_self, bne_self_eq_false, bne_iff_ne, beq_iff_eq, ne_eq, not_false_eq_true, not_true_eq_false,  mkRes, ↓runOps_appc, ↓runOps_appn, app_cons, app_nil, anil, aclear, abound, Option.isSome_some, Option.isSome_none, Nat.sub_zero, run_eff, rep_0, rep_1, rep_2, rep_3, autoOrd, ordG, effs, isLook, isEff, Stab_none, exitA_ret, exitA_normal, exitA_goto, exitA_exit, ↓run_scope, ↓run_goto, ↓run_label, thenA_goto, blockA_goto, jumpA_normal, jumpA_ret, jumpA_exit, jumpA_goto, List.take_succ_cons, *]))
    have hsort := fun m K => sort_spec G (L ++ [e]) pre post N b cap m K
    rw [hlen] at hsort
    refine hsort _ _ ?_ (by omega) (fun C' h1 h2 => ?_)
    · simp only [hupd_at]; (repeat' split) <;> first | rfl | (simp_all; done)
    have hC := sortE_eq h1 h2
    subst hC
    repeat' (first | exact absurd ‹true = false› Bool.noConfusion | exact absurd ‹false = true› Bool.noConfusion | exact False.elim ‹False› | (with_reducible refine Al.intro ?_; intro pb hpb; (try simp only [hupd_none'] at hpb); (repeat rcases hpb with ⟨⟨hpx, hpy⟩, hpb⟩)) | with_reducible refine Need.intro (by first | omega | (with_reducible assumption) | (simp only [List.length_map, List.length_cons, List.length_nil]; omega) | (refine ⟨?_, ?_⟩ <;> omega) | (refine ⟨?_, ?_, ?_⟩ <;> omega) | (simp; done) | (simp; omega)) ?_ | (with_reducible refine condA_dec _ _ _ (fun h => ?_) (fun h => ?_) <;> try (exfalso; omega)) | (with_reducible refine condA_beq _ _ _ _ (fun h => ?_) (fun h => ?_) <;> try (exfalso; omega)) | (with_reducible refine condA_bne _ _ _ _ (fun h => ?_) (fun h => ?_) <;> try (exfalso; omega)) | (with_reducible refine condA_nt _ _ _ (fun h => ?_) (fun h => ?_) <;> try (exfalso; omega)) | (with_reducible refine condA_bool _ _ _ (fun h => ?_) (fun h => ?_) <;> try (exfalso; omega)) | (with_reducible refine gV_dec _ _ _ _ (fun h => ?_) (fun h => ?_) <;> try (exfalso; omega)) | (with_reducible refine gV_beq _ _ _ _ _ (fun h => ?_) (fun h => ?_) <;> try (exfalso; omega)) | (with_reducible refine gV_bne _ _ _ _ _ (fun h => ?_) (fun h => ?_) <;> try (exfalso; omega)) | (with_reducible refine gV_true _ _ _ (fun h => ?_) (fun h => ?_) <;> try (exfalso; omega)) | (with_reducible refine gV_false _ _ _ (fun h => ?_) (fun h => ?_) <;> try (exfalso; omega)) | with_reducible refine quiet_and ?_ ?_ | with_reducible refine awp_drawnA mixed (by decide +kernel) ?_ | ((fail_if_success with_reducible refine isCall ?_); (fail_if_success with_reducible refine isAWP ?_); (fail_if_success with_reducible refine isPart ?_); (fail_if_success with_reducible refine isAgain ?_); (fail_if_success with_reducible refine isApp ?_); (fail_if_success with_reducible refine isQuiet ?_); simp -implicitDefEqProofs only [go_sem, Nat.reduceEqDiff, Nat.reduceAdd, Nat.reduceLT, Nat.reduceMul, Nat.reduceSub, Nat.reduceLeDiff, ↓reduceIte, reduceCtorEq, ↓String.reduceEq, String.reduceNe, Int.reduceToNat, Int.reduceLT, Int.reduceLE, Int.reduceGT, Int.reduceGE, Int.reduceEq, Int.reduceNe, Int.reduceBEq, Int.reduceBNe, Int.reduceAdd, Int.reduceSub, Int.reduceMul, Int.reduceNeg, Int.toNat_natCast, Int.toNat_zero, Int.cast_ofNat_Int, Nat.mul_one, Nat.zero_mul, Nat.reduceEqDiff, Int.le_refl, decide_true, decide_false, and_self, bne_self_eq_false, bne_iff_ne, beq_iff_eq, ne_eq, not_false_eq_true, not_true_eq_false,  mkRes, ↓runOps_appc, ↓runOps_appn, app_cons, app_nil, anil, aclear, abound, Option.isSome_some, Option.isSome_none, Nat.sub_zero, run_eff, rep_0, rep_1, rep_2, rep_3, autoOrd, ordG, effs, isLook, isEff, Stab_none, exitA_ret, exitA_normal, exitA_goto, exitA_exit, ↓run_scope, ↓run_goto, ↓run_label, thenA_goto, blockA_goto, jumpA_normal, jumpA_ret, jumpA_exit, jumpA_goto, List.take_succ_cons, *]))
    have hsl : (sortE (L ++ [e])).length = L.length + 1 := by rw [sortE_len, hlen]
    refine ⟨hupd (hupd m b (.cells (pre ++ ((sortE (L ++ [e])).flatMap encC ++ post)) N)) p (.cells [.slice b pre.length (L.length + 1) cap, .int .i64 n] 2), ?_, KK.out _ _ ⟨by rw [hupd_at, if_pos rfl], .inr ⟨b, _, by rw [hupd_ne hb1, hupd_at, if_pos rfl], pre, post, N, cap, by rw [hsl], rfl, hN, by rw [hsl, ← hlen]; exact hc⟩, by simpa [blkOf] using hb1, by simp only [hsl]; omega, by omega⟩ ⟨fun x hx hx2 hx3 => ?_, fun c hc => ?_⟩⟩
    · exact Sub.hold (Sub.hold (Sub.fresh (Sub.fresh (Sub.refl _) hpb0) hpb))
    · rw [hupd_ne hx, hupd_ne]
      intro e; subst e
      rcases HB.out with h | h
      · exact hx3 h
      · exact hx2 (by rw [← HV.out]; exact h)
    · simp only [blkOf, Option.some.injEq] at hc
      subst hc
      have := HB.out
      rw [HV.out] at this
      exact this)
end Go.Proofs.Ytcdhihoghkkahaa
