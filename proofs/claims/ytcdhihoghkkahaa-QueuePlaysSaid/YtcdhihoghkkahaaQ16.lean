/- The document's queue: Take, Put, Label. -/
import Derived.Test.YtcdhihoghkkahaaQ15
set_option linter.all false
namespace Go.Proofs.Ytcdhihoghkkahaa
open Go Go.Proofs.Ytcdhihoghkkahaa.Ab
open Go.Proofs (Try.prog)
set_option maxRecDepth 100000
/-- Several entries behind. -/
theorem appEs {m : Heap} {K : AVal → Heap → Prop} {b N cap o k : Nat} {pre post : List AVal} {C E : List Ent} {v : AVal} (ho : o = pre.length) (hk : k = E.length) (hb : m b = some (.cells (pre ++ (E.flatMap encC ++ post)) N)) (hs : SlM encC 5 C v m) (hlen : C.length + E.length ≤ 1000)
    (hK : ∀ v' m', SlM encC 5 (C ++ E) v' m' → AppFr v m v' m' → K v' m') : aappend Try.prog 87 87 v (.slice b o k cap) m K := by
  subst ho; subst hk
  exact appN (enc := encC) (sz := 5) Try.underlying87 tk_60 eb_60 zl_60 (by decide) (by rw [Try.underlying87]; rfl) (by unfold isInt; rw [Try.underlying87]) encC_len (encC_flat E) hb hs (by omega) hK
theorem cut1 (L : List Ent) (pre post : List AVal) (i : Nat) : pre ++ (L.flatMap encC ++ post) = pre ++ ((L.take i).flatMap encC ++ ((L.drop i).flatMap encC ++ post)) := by
  conv => lhs; rw [← List.take_append_drop i L]
  simp only [List.flatMap_append, List.append_assoc]
theorem cut2 (L : List Ent) (pre post : List AVal) (i : Nat) : pre ++ (L.flatMap encC ++ post) = (pre ++ (L.take i).flatMap encC) ++ ((L.drop i).flatMap encC ++ post) := by
  rw [cut1 L pre post i]; simp only [List.append_assoc]
set_option maxHeartbeats 2000000 in
theorem rtake_spec (G : Nat → AVal) {m : Heap} {p : Nat} {v : AVal} {n : Nat} {L : List Ent} (h : QP m p v n L) (tag : Int) (K : AVal → Heap → Prop)
    (hK : ∀ v' m', QP m' p v' n (takeF L tag).2 → Fq p v m v' m' → K (errV (takeF L tag).1) m') : CallWP Try.prog G 37 [.ptr p 0, .int .i64 tag] m K := by
  have hat := fun m (h : QP m p v n L) => rfind_spec G h tag
  have hQ := Hid.mk h
  have hm := h.at_
  have nl := neL hm
  have nr := neR hm
  have row := h.row
  have l1 := h.len
  have l2 := h.n64
  have HK := Hid.mk hK
  clear h hK
  refine callWP_body Try.func37 rfl (N := 44) rfl (rs := [.cell 4 60, .tmp 5]) rfl en_37 (of_decide_eq_true rfl) ?_
  rcases idx_cases L tag with hi | ⟨i, hil, hi, ht⟩
  · have e1 : takeF L tag = ((default, 7), L) := by unfold takeF; rw [hi]; rfl
    have KK := Hid.mk HK.out
    rw [e1] at KK
    rw [hi] at hat
    have HA := Hid.mk hat
    clear hat hi e1 HK
    repeat' (first | exact absurd ‹true = false› Bool.noConfusion | exact absurd ‹false = true› Bool.noConfusion | exact False.elim ‹False› | (with_reducible refine Al.intro ?_; intro pb hpb; (try simp only [hupd_none'] at hpb); (repeat rcases hpb with ⟨⟨hpx, hpy⟩, hpb⟩)) | with_reducible refine Need.intro (by first | omega | (with_reducible assumption) | (simp only [List.length_map, List.length_cons, List.length_nil]; omega) | (refine ⟨?_, ?_⟩ <;> omega) | (refine ⟨?_, ?_, ?_⟩ <;> omega) | (simp; done) | (simp; omega)) ?_ | (with_reducible refine condA_dec _ _ _ (fun h => ?_) (fun h => ?_) <;> try (exfalso; omega)) | (with_reducible refine condA_beq _ _ _ _ (fun h => ?_) (fun h => ?_) <;> try (exfalso; omega)) | (with_reducible refine condA_bne _ _ _ _ (fun h => ?_) (fun h => ?_) <;> try (exfalso; omega)) | (with_reducible refine condA_nt _ _ _ (fun h => ?_) (fun h => ?_) <;> try (exfalso; omega)) | (with_reducible refine condA_bool _ _ _ (fun h => ?_) (fun h => ?_) <;> try (exfalso; omega)) | (with_reducible refine gV_dec _ _ _ _ (fun h => ?_) (fun h => ?_) <;> try (exfalso; omega)) | (with_reducible refine gV_beq _ _ _ _ _ (fun h => ?_) (fun h => ?_) <;> try (exfalso; omega)) | (with_reducible refine gV_bne _ _ _ _ _ (fun h => ?_) (fun h => ?_) <;> try (exfalso; omega)) | (with_reducible refine gV_true _ _ _ (fun h => ?_) (fun h => ?_) <;> try (exfalso; omega)) | (with_reducible refine gV_false _ _ _ (fun h => ?_) (fun h => ?_) <;> try (exfalso; omega)) | with_reducible refine quiet_and ?_ ?_ | with_reducible refine awp_drawnA mixed (by decide +kernel) ?_ | ((fail_if_success with_reducible refine isCall ?_); (fail_if_success with_reducible refine isAWP ?_); (fail_if_success with_reducible refine isPart ?_); (fail_if_success with_reducible refine isAgain ?_); (fail_if_success with_reducible refine isApp ?_); (fail_if_success with_reducible refine isQuiet ?_); simp -implicitDefEqProofs only [go_sem, Nat.reduceEqDiff, Nat.reduceAdd, Nat.reduceLT, Nat.reduceMul, Nat.reduceSub, Nat.reduceLeDiff, ↓reduceIte, reduceCtorEq, ↓String.reduceEq, String.reduceNe, Int.reduceToNat, Int.reduceLT, Int.reduceLE, Int.reduceGT, Int.reduceGE, Int.reduceEq, Int.reduceNe, Int.reduceBEq, Int.reduceBNe, Int.reduceAdd, Int.reduceSub, Int.reduceMul, Int.reduceNeg, Int.toNat_natCast, Int.toNat_zero, Int.cast_ofNat_Int, Nat.mul_one, Nat.zero_mul, Nat.reduceEqDiff, Int.le_refl, decide_true, decide_false, and_self, bne_self_eq_false, bne_iff_ne, beq_iff_eq, ne_eq, not_false_eq_true, not_true_eq_false,  mkRes, ↓runOps_appc, ↓runOps_appn, app_cons, app_nil, anil, aclear, abound, Option.isSome_some, Option.isSome_none, Nat.sub_zero, run_eff, rep_0, rep_1, rep_2, rep_3, autoOrd, ordG, effs, isLook, isEff, Stab_none, exitA_ret, exitA_normal, exitA_goto, exitA_exit, ↓run_scope, ↓run_goto, ↓run_label, thenA_goto, blockA_goto, jumpA_normal, jumpA_ret, jumpA_exit, jumpA_goto, List.take_succ_cons, *]))
    refine CallWP.to (HA.out _ (hQ.out.fresh _ hpb)) ?_
    repeat' (first | exact absurd ‹true = false› Bool.noConfusion | exact absurd ‹false = true› Bool.noConfusion | exact False.elim ‹False› | (with_reducible refine Al.intro ?_; intro pb hpb; (try simp only [hupd_none'] at hpb); (repeat rcases hpb with ⟨⟨hpx, hpy⟩, hpb⟩)) | with_reducible refine Need.intro (by first | omega | (with_reducible assumption) | (simp only [List.length_map, List.length_cons, List.length_nil]; omega) | (refine ⟨?_, ?_⟩ <;> omega) | (refine ⟨?_, ?_, ?_⟩ <;> omega) | (simp; done) | (simp; omega)) ?_ | (with_reducible refine condA_dec _ _ _ (fun h => ?_) (fun h => ?_) <;> try (exfalso; omega)) | (with_reducible refine condA_beq _ _ _ _ (fun h => ?_) (fun h => ?_) <;> try (exfalso; omega)) | (with_reducible refine condA_bne _ _ _ _ (fun h => ?_) (fun h => ?_) <;> try (exfalso; omega)) | (with_reducible refine condA_nt _ _ _ (fun h => ?_) (fun h => ?_) <;> try (exfalso; omega)) | (with_reducible refine condA_bool _ _ _ (fun h => ?_) (fun h => ?_) <;> try (exfalso; omega)) | (with_reducible refine gV_dec _ _ _ _ (fun h => ?_) (fun h => ?_) <;> try (exfalso; omega)) | (with_reducible refine gV_beq _ _ _ _ _ (fun h => ?_) (fun h => ?_) <;> try (exfalso; omega)) | (with_reducible refine gV_bne _ _ _ _ _ (fun h => ?_) (fun h => ?_) <;> try (exfalso; omega)) | (with_reducible refine gV_true _ _ _ (fun h => ?_) (fun h => ?_) <;> try (exfalso; omega)) | (with_reducible refine gV_false _ _ _ (fun h => ?_) (fun h => ?_) <;> try (exfalso; omega)) | with_reducible refine quiet_and ?_ ?_ | with_reducible refine awp_drawnA mixed (by decide +kernel) ?_ | ((fail_if_success with_reducible refine isCall ?_); (fail_if_success with_reducible refine isAWP ?_); (fail_if_success with_reducible refine isPart ?_); (fail_if_success with_reducible refine isAgain ?_); (fail_if_success with_reducible refine isApp ?_); (fail_if_success with_reducible refine isQuiet ?_); simp -implicitDefEqProofs only [go_sem, Nat.reduceEqDiff, Nat.reduceAdd, Nat.reduceLT, Nat.reduceMul, Nat.reduceSub, Nat.reduceLeDiff, ↓reduceIte, reduceCtorEq, ↓String.reduceEq, String.reduceNe, Int.reduceToNat, Int.reduceLT, Int.reduceLE, Int.reduceGT, Int.reduceGE, Int.reduceEq, Int.reduceNe, Int.reduceBEq, Int.reduceBNe, Int.reduceAdd, Int.reduceSub, Int.reduceMul, Int.reduceNeg, Int.toNat_natCast, Int.toNat_zero, Int.cast_ofNat_Int, Nat.mul_one, Nat.zero_mul, Nat.reduceEqDiff, Int.le_refl, decide_true, decide_false, and_self, bne_self_eq_false, bne_iff_ne, beq_iff_eq, ne_eq, not_false_eq_true, not_true_eq_false,  mkRes, ↓runOps_appc, ↓runOps_appn, app_cons, app_nil, anil, aclear, abound, Option.isSome_some, Option.isSome_none, Nat.sub_zero, run_eff, rep_0, rep_1, rep_2, rep_3, autoOrd, ordG, effs, isLook, isEff, Stab_none, exitA_ret, exitA_normal, exitA_goto, exitA_exit, ↓run_scope, ↓run_goto, ↓run_label, thenA_goto, blockA_goto, jumpA_normal, jumpA_ret, jumpA_exit, jumpA_goto, List.take_succ_cons, *]))
    exact ⟨m, Sub.fresh (Sub.refl _) hpb, KK.out _ _ hQ.out (Fq.refl _ _ _)⟩
  · rcases row with ⟨rfl, rfl⟩ | ⟨b, blk, hb, pre, post, N, cap, rfl, rfl, hN, hc⟩
    · simp at hil
    · have e1 : takeF L tag = ((L.getD i default, 0), L.eraseIdx i) := by unfold takeF; rw [hi, if_neg (by omega), Int.toNat_natCast]
      have KK := Hid.mk HK.out
      rw [e1] at KK
      rw [hi] at hat
      have HA := Hid.mk hat
      obtain ⟨e, he⟩ : ∃ e, L.getD i default = e := ⟨_, rfl⟩
      rw [he] at KK
      have g := ent_ex L pre post i hil e he
      have le := ent_len L pre post i hil
      have nl2 := neL hb
      have nr2 := neR hb
      have hbp := slv_ne hQ.out.ne _ _ _ _ rfl
      have hpb2 := Ne.symm hbp
      have wi : IntKind.i64.wrap ((i : Int) + 1) = ((i + 1 : Nat) : Int) := by rw [wrap_i64 (by omega) (by omega)]; rfl
      clear hat hi e1 HK he
      repeat' (first | exact absurd ‹true = false› Bool.noConfusion | exact absurd ‹false = true› Bool.noConfusion | exact False.elim ‹False› | (with_reducible refine Al.intro ?_; intro pb hpb; (try simp only [hupd_none'] at hpb); (repeat rcases hpb with ⟨⟨hpx, hpy⟩, hpb⟩)) | with_reducible refine Need.intro (by first | omega | (with_reducible assumption) | (simp only [List.length_map, List.length_cons, List.length_nil]; omega) | (refine ⟨?_, ?_⟩ <;> omega) | (refine ⟨?_, ?_, ?_⟩ <;> omega) | (simp; done) | (simp; omega)) ?_ | (with_reducible refine condA_dec _ _ _ (fun h => ?_) (fun h => ?_) <;> try (exfalso; omega)) | (with_reducible refine condA_beq _ _ _ _ (fun h => ?_) (fun h => ?_) <;> try (exfalso; omega)) | (with_reducible refine condA_bne _ _ _ _ (fun h => ?_) (fun h => ?_) <;> try (exfalso; omega)) | (with_reducible refine condA_nt _ _ _ (fun h => ?_) (fun h => ?_) <;> try (exfalso; omega)) | (with_reducible refine condA_bool _ _ _ (fun h => ?_) (fun h => ?_) <;> try (exfalso; omega)) | (with_reducible refine gV_dec _ _ _ _ (fun h => ?_) (fun h => ?_) <;> try (exfalso; omega)) | (with_reducible refine gV_beq _ _ _ _ _ (fun h => ?_) (fun h => ?_) <;> try (exfalso; omega)) | (with_reducible refine gV_bne _ _ _ _ _ (fun h => ?_) (fun h => ?_) <;> try (exfalso; omega)) | (with_reducible refine gV_true _ _ _ (fun h => ?_) (fun h => ?_) <;> try (exfalso; omega)) | (with_reducible refine gV_false _ _ _ (fun h => ?_) (fun h => ?_) <;> try (exfalso; omega)) | with_reducible refine quiet_and ?_ ?_ | with_reducible refine awp_drawnA mixed (by decide +kernel) ?_ | ((fail_if_success with_reducible refine isCall ?_); (fail_if_success with_reducible refine isAWP ?_); (fail_if_success with_reducible refine isPart ?_); (fail_if_success with_reducible refine isAgain ?_); (fail_if_success with_reducible refine isApp ?_); (fail_if_success with_reducible refine isQuiet ?_); simp -implicitDefEqProofs only [go_sem, Nat.reduceEqDiff, Nat.reduceAdd, Nat.reduceLT, Nat.reduceMul, Nat.reduceSub, Nat.reduceLeDiff, ↓reduceIte, reduceCtorEq, ↓String.reduceEq, String.reduceNe, Int.reduceToNat, Int.reduceLT, Int.reduceLE, Int.reduceGT, Int.reduceGE, Int.reduceEq, Int.reduceNe, Int.reduceBEq, Int.reduceBNe, Int.reduceAdd, Int.reduceSub, Int.reduceMul, Int.reduceNeg, Int.toNat_natCast, Int.toNat_zero, Int.cast_ofNat_Int, Nat.mul_one, Nat.zero_mul, Nat.reduceEqDiff, Int.le_refl, decide_true, decide_false, and_self, bne_self_eq_false, bne_iff_ne, beq_iff_eq, ne_eq, not_false_eq_true, not_true_eq_false,  mkRes, ↓runOps_appc, ↓runOps_appn, app_cons, app_nil, anil, aclear, abound, Option.isSome_some, Option.isSome_none, Nat.sub_zero, run_eff, rep_0, rep_1, rep_2, rep_3, autoOrd, ordG, effs, isLook, isEff, Stab_none, exitA_ret, exitA_normal, exitA_goto, exitA_exit, ↓run_scope, ↓run_goto, ↓run_label, thenA_goto, blockA_goto, jumpA_normal, jumpA_ret, jumpA_exit, jumpA_goto, List.take_succ_cons, *]))
      rename Nat => p4
      rename m p4 = none => hp4
      refine CallWP.to (HA.out _ (hQ.out.fresh _ hp4)) ?_
      repeat' (first | exact absurd ‹true = false› Bool.noConfusion | exact absurd ‹false = true› Bool.noConfusion | exact False.elim ‹False› | (with_reducible refine Al.intro ?_; intro pb hpb; (try simp only [hupd_none'] at hpb); (repeat rcases hpb with ⟨⟨hpx, hpy⟩, hpb⟩)) | with_reducible refine Need.intro (by first | omega | (with_reducible assumption) | (simp only [List.length_map, List.length_cons, List.length_nil]; omega) | (refine ⟨?_, ?_⟩ <;> omega) | (refine ⟨?_, ?_, ?_⟩ <;> omega) | (simp; done) | (simp; omega)) ?_ | (with_reducible refine condA_dec _ _ _ (fun h => ?_) (fun h => ?_) <;> try (exfalso; omega)) | (with_reducible refine condA_beq _ _ _ _ (fun h => ?_) (fun h => ?_) <;> try (exfalso; omega)) | (with_reducible refine condA_bne _ _ _ _ (fun h => ?_) (fun h => ?_) <;> try (exfalso; omega)) | (with_reducible refine condA_nt _ _ _ (fun h => ?_) (fun h => ?_) <;> try (exfalso; omega)) | (with_reducible refine condA_bool _ _ _ (fun h => ?_) (fun h => ?_) <;> try (exfalso; omega)) | (with_reducible refine gV_dec _ _ _ _ (fun h => ?_) (fun h => ?_) <;> try (exfalso; omega)) | (with_reducible refine gV_beq _ _ _ _ _ (fun h => ?_) (fun h => ?_) <;> try (exfalso; omega)) | (with_reducible refine gV_bne _ _ _ _ _ (fun h => ?_) (fun h => ?_) <;> try (exfalso; omega)) | (with_reducible refine gV_true _ _ _ (fun h => ?_) (fun h => ?_) <;> try (exfalso; omega)) | (with_reducible refine gV_false _ _ _ (fun h => ?_) (fun h => ?_) <;> try (exfalso; omega)) | with_reducible refine quiet_and ?_ ?_ | with_reducible refine awp_drawnA mixed (by decide +kernel) ?_ | ((fail_if_success with_reducible refine isCall ?_); (fail_if_success with_reducible refine isAWP ?_); (fail_if_success with_reducible refine isPart ?_); (fail_if_success with_reducible refine isAgain ?_); (fail_if_success with_reducible refine isApp ?_); (fail_if_success with_reducible refine isQuiet ?_); simp -implicitDefEqProofs only [go_sem, Nat.reduceEqDiff, Nat.reduceAdd, Nat.reduceLT, Nat.reduceMul, Nat.reduceSub, Nat.reduceLeDiff, ↓reduceIte, reduceCtorEq, ↓String.reduceEq, String.reduceNe, Int.reduceToNat, Int.reduceLT, Int.reduceLE, Int.reduceGT, Int.reduceGE, Int.reduceEq, Int.reduceNe, Int.reduceBEq, Int.reduceBNe, Int.reduceAdd, Int.reduceSub, Int.reduceMul, Int.reduceNeg, Int.toNat_natCast, Int.toNat_zero, Int.cast_ofNat_Int, Nat.mul_one, Nat.zero_mul, Nat.reduceEqDiff, Int.le_refl, decide_true, decide_false, and_self, bne_self_eq_false, bne_iff_ne, beq_iff_eq, ne_eq, not_false_eq_true, not_true_eq_false,  mkRes, ↓runOps_appc, ↓runOps_appn, app_cons, app_nil, anil, aclear, abound, Option.isSome_some, Option.isSome_none, Nat.sub_zero, run_eff, rep_0, rep_1, rep_2, rep_3, autoOrd, ordG, effs, isLook, isEff, Stab_none, exitA_ret, exitA_normal, exitA_goto, exitA_exit, ↓run_scope, ↓run_goto, ↓run_label, thenA_goto, blockA_goto, jumpA_normal, jumpA_ret, jumpA_exit, jumpA_goto, List.take_succ_cons, *]))
      obtain ⟨mb, emb⟩ : ∃ mb, mb = hupd (hupd m p4 (.cells [.int .i64 0, .int .i64 0, .int .i64 0, .int .i64 0, .int .i64 0] 5)) pb (.cells [.int .i64 e.1.1, .int .i64 e.1.2.1, .int .i64 e.1.2.2.1, .int .i64 e.1.2.2.2, .int .i64 e.2] 5) := ⟨_, rfl⟩
      rw [← emb]
      rename Nat => p7
      rename m p7 = none => hp7
      have S0 : Sub m mb := by rw [emb]; exact Sub.fresh (Sub.fresh (Sub.refl _) hp4) hp7
      have k7 : mb p7 = some (.cells [.int .i64 e.1.1, .int .i64 e.1.2.1, .int .i64 e.1.2.2.1, .int .i64 e.1.2.2.2, .int .i64 e.2] 5) := by rw [emb, hupd_at, if_pos rfl]
      have k4 : mb p4 = some (.cells [.int .i64 0, .int .i64 0, .int .i64 0, .int .i64 0, .int .i64 0] 5) := by rw [emb, hupd_ne (Ne.symm hpx), hupd_at, if_pos rfl]
      have kp := S0 p _ hm
      have kb := S0 b _ hb
      clear emb
      have HS0 := Hid.mk S0
      refine appEs (E := L.take i) (pre := pre) (C := []) (by split <;> rfl) (by simp; omega) (by rw [kb, cut1 L pre post i]) (.inl ⟨rfl, rfl⟩) (by simp; omega) (fun v1 m1 h1 f1 => ?_)
      obtain ⟨s1, u1⟩ := f1.sub (Sub.refl mb) (fun c hc => by cases hc)
      have H1 := Hid.mk h1
      have U1 := Hid.mk u1
      have S1 := Hid.mk s1
      have j7 := s1 p7 _ k7
      have j4 := s1 p4 _ k4
      have jp := s1 p _ kp
      have jb := s1 b _ kb
      have KB := Hid.mk kb
      have K7 := Hid.mk k7
      have K4 := Hid.mk k4
      have KP := Hid.mk kp
      have HB := Hid.mk hb
      have HM := Hid.mk hm
      clear h1 f1 s1 u1 k7 k4 kp kb S0 hb hm
      repeat' (first | exact absurd ‹true = false› Bool.noConfusion | exact absurd ‹false = true› Bool.noConfusion | exact False.elim ‹False› | (with_reducible refine Al.intro ?_; intro pb hpb; (try simp only [hupd_none'] at hpb); (repeat rcases hpb with ⟨⟨hpx, hpy⟩, hpb⟩)) | with_reducible refine Need.intro (by first | omega | (with_reducible assumption) | (simp only [List.length_map, List.length_cons, List.length_nil]; omega) | (refine ⟨?_, ?_⟩ <;> omega) | (refine ⟨?_, ?_, ?_⟩ <;> omega) | (simp; done) | (simp; omega)) ?_ | (with_reducible refine condA_dec _ _ _ (fun h => ?_) (fun h => ?_) <;> try (exfalso; omega)) | (with_reducible refine condA_beq _ _ _ _ (fun h => ?_) (fun h => ?_) <;> try (exfalso; omega)) | (with_reducible refine condA_bne _ _ _ _ (fun h => ?_) (fun h => ?_) <;> try (exfalso; omega)) | (with_reducible refine condA_nt _ _ _ (fun h => ?_) (fun h => ?_) <;> try (exfalso; omega)) | (with_reducible refine condA_bool _ _ _ (fun h => ?_) (fun h => ?_) <;> try (exfalso; omega)) | (with_reducible refine gV_dec _ _ _ _ (fun h => ?_) (fun h => ?_) <;> try (exfalso; omega)) | (with_reducible refine gV_beq _ _ _ _ _ (fun h => ?_) (fun h => ?_) <;> try (exfalso; omega)) | (with_reducible refine gV_bne _ _ _ _ _ (fun h => ?_) (fun h => ?_) <;> try (exfalso; omega)) | (with_reducible refine gV_true _ _ _ (fun h => ?_) (fun h => ?_) <;> try (exfalso; omega)) | (with_reducible refine gV_false _ _ _ (fun h => ?_) (fun h => ?_) <;> try (exfalso; omega)) | with_reducible refine quiet_and ?_ ?_ | with_reducible refine awp_drawnA mixed (by decide +kernel) ?_ | ((fail_if_success with_reducible refine isCall ?_); (fail_if_success with_reducible refine isAWP ?_); (fail_if_success with_reducible refine isPart ?_); (fail_if_success with_reducible refine isAgain ?_); (fail_if_success with_reducible refine isApp ?_); (fail_if_success with_reducible refine isQuiet ?_); simp -implicitDefEqProofs only [go_sem, Nat.reduceEqDiff, Nat.reduceAdd, Nat.reduceLT, Nat.reduceMul, Nat.reduceSub, Nat.reduceLeDiff, ↓reduceIte, reduceCtorEq, ↓String.reduceEq, String.reduceNe, Int.reduceToNat, Int.reduceLT, Int.reduceLE, Int.reduceGT, Int.reduceGE, Int.reduceEq, Int.reduceNe, Int.reduceBEq, Int.reduceBNe, Int.reduceAdd, Int.reduceSub, Int.reduceMul, Int.reduceNeg, Int.toNat_natCast, Int.toNat_zero, Int.cast_ofNat_Int, Nat.mul_one, Nat.zero_mul, Nat.reduceEqDiff, Int.le_refl, decide_true, decide_false, and_self, bne_self_eq_false, bne_iff_ne, beq_iff_eq, ne_eq, not_false_eq_true, not_true_eq_false,  mkRes, ↓runOps_appc, ↓runOps_appn, app_cons, app_nil, anil, aclear, abound, Option.isSome_some, Option.isSome_none, Nat.sub_zero, run_eff, rep_0, rep_1, rep_2, rep_3, autoOrd, ordG, effs, isLook, isEff, Stab_none, exitA_ret, exitA_normal, exitA_goto, exitA_exit, ↓run_scope, ↓run_goto, ↓run_label, thenA_goto, blockA_goto, jumpA_normal, jumpA_ret, jumpA_exit, jumpA_goto, List.take_succ_cons, *]))
      obtain ⟨pre', post', E, ho, hE, hblk, heq⟩ : ∃ (pre' post' : List AVal) (E : List Ent), (if (cap : Int) = ((i + 1 : Nat) : Int) then pre.length else pre.length + (i + 1) * 5) = pre'.length ∧ L.length - (i + 1) = E.length ∧ pre ++ (L.flatMap encC ++ post) = pre' ++ (E.flatMap encC ++ post') ∧ ([] ++ L.take i) ++ E = L.eraseIdx i := by
        by_cases hcap : (cap : Int) = ((i + 1 : Nat) : Int)
        · refine ⟨pre, L.flatMap encC ++ post, [], by rw [if_pos hcap], by simp; omega, by simp, ?_⟩
          rw [List.eraseIdx_eq_take_drop_succ, List.drop_eq_nil_of_le (by omega)]; simp
        · refine ⟨pre ++ (L.take (i + 1)).flatMap encC, post, L.drop (i + 1), ?_, by simp, cut2 L pre post (i + 1), ?_⟩
          · rw [if_neg hcap, List.length_append, flatC_len, List.length_take]; congr 2; omega
          · rw [List.eraseIdx_eq_take_drop_succ]; simp
      refine appEs ho hE (by rw [jb, hblk]) H1.out (by rw [heq] at *; simp; omega) (fun v2 m2 h2 f2 => ?_)
      rw [heq] at h2
      obtain ⟨s2, u2⟩ := f2.sub S1.out U1.out
      have H2 := Hid.mk h2
      have U2 := Hid.mk u2
      have S2 := Hid.mk s2
      have i7 := s2 p7 _ K7.out
      have i4 := s2 p4 _ K4.out
      have ip := s2 p _ KP.out
      have n4p := (ne_of HM.out hp4).1
      have n4p' := (ne_of HM.out hp4).2
      have fin : ∀ y, K (errV (e, 0)) (hupd (hupd m2 p (.cells [v2, .int .i64 n] 2)) p4 y) := by
        intro y
        have hvp : ∀ c, bOf v2 = some c → c ≠ p := fun c hc e => by have := u2 c hc; rw [e, KP.out] at this; cases this
        have hv4 : ∀ c, bOf v2 = some c → c ≠ p4 := fun c hc e => by have := u2 c hc; rw [e, K4.out] at this; cases this
        refine KK.out v2 _ ⟨by rw [hupd_ne n4p, hupd_at, if_pos rfl], h2.keep (fun c hc => by rw [hupd_ne (hv4 c hc), hupd_ne (hvp c hc)]), fun hc => hvp p (by rw [bOf_eq]; exact hc) rfl, ?_, l2⟩ ⟨fun x hx hx2 hx3 => ?_, fun c hc => .inl (HS0.out.gone (u2 c (by rw [bOf_eq]; exact hc)))⟩
        · have : (L.eraseIdx i).length = L.length - 1 := by rw [List.length_eraseIdx, if_pos hil]
          show (L.eraseIdx i).length ≤ n
          omega
        · rw [hupd_ne (fun e => by rw [e, hp4] at hx3; exact hx3 rfl), hupd_ne hx]
          cases hm3 : m x with
          | none => exact absurd hm3 hx3
          | some z => exact s2 x z (HS0.out x z hm3)
      have FIN := Hid.mk fin
      clear h2 f2 s2 u2 fin j7 j4 jp jb ho hblk
      rcases H2.out.slv with ⟨rfl, _⟩ | ⟨b2, o2, c2, rfl⟩
      all_goals (
        repeat' (first | exact absurd ‹true = false› Bool.noConfusion | exact absurd ‹false = true› Bool.noConfusion | exact False.elim ‹False› | (with_reducible refine Al.intro ?_; intro pb hpb; (try simp only [hupd_none'] at hpb); (repeat rcases hpb with ⟨⟨hpx, hpy⟩, hpb⟩)) | with_reducible refine Need.intro (by first | omega | (with_reducible assumption) | (simp only [List.length_map, List.length_cons, List.length_nil]; omega) | (refine ⟨?_, ?_⟩ <;> omega) | (refine ⟨?_, ?_, ?_⟩ <;> omega) | (simp; done) | (simp; omega)) ?_ | (with_reducible refine condA_dec _ _ _ (fun h => ?_) (fun h => ?_) <;> try (exfalso; omega)) | (with_reducible refine condA_beq _ _ _ _ (fun h => ?_) (fun h => ?_) <;> try (exfalso; omega)) | (with_reducible refine condA_bne _ _ _ _ (fun h => ?_) (fun h => ?_) <;> try (exfalso; omega)) | (with_reducible refine condA_nt _ _ _ (fun h => ?_) (fun h => ?_) <;> try (exfalso; omega)) | (with_reducible refine condA_bool _ _ _ (fun h => ?_) (fun h => ?_) <;> try (exfalso; omega)) | (with_reducible refine gV_dec _ _ _ _ (fun h => ?_) (fun h => ?_) <;> try (exfalso; omega)) | (with_reducible refine gV_beq _ _ _ _ _ (fun h => ?_) (fun h => ?_) <;> try (exfalso; omega)) | (with_reducible refine gV_bne _ _ _ _ _ (fun h => ?_) (fun h => ?_) <;> try (exfalso; omega)) | (with_reducible refine gV_true _ _ _ (fun h => ?_) (fun h => ?_) <;> try (exfalso; omega)) | (with_reducible refine gV_false _ _ _ (fun h => ?_) (fun h => ?_) <;> try (exfalso; omega)) | with_reducible refine quiet_and ?_ ?_ | with_reducible refine awp_drawnA mixed (by decide +kernel) ?_ | ((fail_if_success with_reducible refine isCall ?_); (fail_if_success with_reducible refine isAWP ?_); (fail_if_success with_reducible refine isPart ?_); (fail_if_success with_reducible refine isAgain ?_); (fail_if_success with_reducible refine isApp ?_); (fail_if_success with_reducible refine isQuiet ?_); simp -implicitDefEqProofs only [go_sem, Nat.reduceEqDiff, Nat.reduceAdd, Nat.reduceLT, Nat.reduceMul, Nat.reduceSub, Nat.reduceLeDiff, ↓reduceIte, reduceCtorEq, ↓String.reduceEq, String.reduceNe, Int.reduceToNat, Int.reduceLT, Int.reduceLE, Int.reduceGT, Int.reduceGE, Int.reduceEq, Int.reduceNe, Int.reduceBEq, Int.reduceBNe, Int.reduceAdd, Int.reduceSub, Int.reduceMul, Int.reduceNeg, Int.toNat_natCast, Int.toNat_zero, Int.cast_ofNat_Int, Nat.mul_one, Nat.zero_mul, Nat.reduceEqDiff, Int.le_refl, decide_true, decide_false, and_self, bne_self_eq_false, bne_iff_ne, beq_iff_eq, ne_eq, not_false_eq_true, not_true_eq_false,  mkRes, ↓runOps_appc, ↓runOps_appn, app_cons, app_nil, anil, aclear, abound, Option.isSome_some, Option.isSome_none, Nat.sub_zero, run_eff, rep_0, rep_1, rep_2, rep_3, autoOrd, ordG, effs, isLook, isEff, Stab_none, exitA_ret, exitA_normal, exitA_goto, exitA_exit, ↓run_scope, ↓run_goto, ↓run_label, thenA_goto, blockA_goto, jumpA_normal, jumpA_ret, jumpA_exit, jumpA_goto, List.take_succ_cons, *]))
        exact ⟨_, Sub.refl _, FIN.out _⟩)
theorem encL_of (e : Ent) : encE e = .agg [.int .i64 e.1.1, .int .i64 e.1.2.1, .int .i64 e.1.2.2.1, .int .i64 e.1.2.2.2, .int .i64 e.2] := rfl
end Go.Proofs.Ytcdhihoghkkahaa
