/- The library's stable sort, whole. -/
import Derived.Test.YtmifapnmlhchlaaE9
import Derived.Test.YtmifapnmlhchlaaLga
set_option linter.all false
namespace Go.Proofs.Ytmifapnmlhchlaa
open Go Go.Proofs.Ytmifapnmlhchlaa.Ab
open Go.Proofs (Try.prog)
set_option maxRecDepth 100000
theorem merge_spec (G : Nat → AVal) (pre post : List AVal) (N pb L cap : Nat) (hL1 : L ≤ 1000) : ∀ (n : Nat) (A B : List Wt), A.length + B.length ≤ n → 1 ≤ A.length → 1 ≤ B.length → Two A B → MergeAt G pre post N pb L cap A B := by
  intro n
  induction n with
  | zero => intro A B h h1; omega
  | succ n ih =>
    intro A B h h1 h2 hT
    by_cases e1 : A.length = 1
    · obtain ⟨w, rfl⟩ := List.length_eq_one_iff.1 e1
      intro X Y a c b m K hL ha hc hb hm hK
      exact merge_one G X B Y w hT.2.1 (fun v hv => hT.2.2 w (by simp) v hv) (by have e := hL1; rw [← hL] at e; simpa using e) pre post N pb L cap a c b ha (by simpa using hc) (by simpa using hb) (by simpa using hL.symm) m K (by simpa using hm) hK
    · by_cases e2 : B.length = 1
      · obtain ⟨w, rfl⟩ := List.length_eq_one_iff.1 e2
        intro X Y a c b m K hL ha hc hb hm hK
        exact merge_last G X A Y w hT.1 (fun v hv => hT.2.2 v hv w (by simp)) (by omega) (by have e := hL1; rw [← hL] at e; simpa using e) pre post N pb L cap a c b ha hc (by simpa using hb) (by simpa using hL.symm) m K (by simpa using hm) hK
      · exact merge_gen G pre post N pb L cap hL1 A B hT (by omega) (by omega) (fun A' B' hl l1 l2 t => ih A' B' (by omega) l1 l2 t)
theorem two_of {CP A1 A2 R S1 S2 : List Wt} (h : (CP ++ (A1 ++ (A2 ++ R))).Pairwise fun x y => pT x < pT y) (s1 : S1.Pairwise RT) (p1 : S1.Perm A1) (s2 : S2.Pairwise RT) (p2 : S2.Perm A2) : Two S1 S2 := by
  refine ⟨s1, s2, fun u hu v hv => ?_⟩
  rw [List.pairwise_append] at h
  have h2 := h.2.1
  rw [List.pairwise_append] at h2
  exact h2.2.2 u (p1.mem_iff.1 hu) v (List.mem_append_left _ (p2.mem_iff.1 hv))
abbrev GoodT := BlkS kT pT
abbrev PreT := PreS kT pT
set_option maxHeartbeats 2000000 in
theorem stable_spec (G : Nat → AVal) (C : List Wt) (hC : C.Pairwise fun x y => pT x < pT y) (hl : C.length ≤ 1000) (pre post : List AVal) (N pb L cap : Nat) (hL : L = C.length)
    (m : Heap) (K : AVal → Heap → Prop) (hm : m pb = some (rowB pre post N C))
    (hK : ∀ S : List Wt, S.Pairwise RT → S.Perm C → K (.tuple []) (hupd m pb (rowB pre post N S))) : CallWP Try.prog G 56 [.slice pb pre.length L cap, .int .i64 L, cameV] m K := by
  have HK := Hid.mk hK
  have HM := Hid.mk hm
  have H0 := Hid.mk (And.intro hL (And.intro hl hC))
  have hL1 : L ≤ 1000 := by omega
  clear hK hm hL hl hC
  refine callWP_body Try.func56 rfl (N := 63) rfl (rs := []) rfl en_56 (of_decide_eq_true rfl) ?_
  repeat' (first | exact tf0 ‹_› | exact tf1 ‹_› | exact False.elim ‹_› | (with_reducible refine Al.intro ?_; intro pb hpb; (try simp only [hupd_none'] at hpb); (repeat rcases hpb with ⟨⟨hpx, hpy⟩, hpb⟩)) | with_reducible refine need ?_ | ((with_reducible first | refine frk0 ?_ ?_ | refine frk1 ?_ ?_ | refine frk2 ?_ ?_ | refine frk3 ?_ ?_ | refine frk4 ?_ ?_ | refine frk5 ?_ ?_ | refine frk6 ?_ ?_ | refine frk7 ?_ ?_ | refine frk8 ?_ ?_ | refine frk9 ?_ ?_) <;> intro h <;> try (exfalso; omega)) | with_reducible refine quiet_and ?_ ?_ | with_reducible refine awp_drawnA mixed (by decide +kernel) ?_ | ((fail_if_success with_reducible refine stp ?_); simp -implicitDefEqProofs only [go_sem, Nat.reduceEqDiff, Nat.reduceAdd, Nat.reduceLT, Nat.reduceMul, Nat.reduceSub, Nat.reduceLeDiff, ↓reduceIte, reduceCtorEq, ↓String.reduceEq, String.reduceNe, Int.reduceToNat, Int.reduceLT, Int.reduceLE, Int.reduceGT, Int.reduceGE, Int.reduceEq, Int.reduceNe, Int.reduceBEq, Int.reduceBNe, Int.reduceAdd, Int.reduceSub, Int.reduceMul, Int.reduceNeg,  *]))
  refine awp_loopP 0 (fun ts m' => ∃ CP CR P : List Wt, Hid (C = CP ++ CR ∧ CR.length < 20 ∧ PreT 20 CP P) ∧ ts 0 = .slice pb pre.length L cap ∧ ts 1 = .int .i64 L ∧ ts 2 = cameV ∧ ts 6 = .int .i64 20 ∧ ts 7 = .int .i64 (P.length : Nat) ∧ m' = hupd m pb (rowB pre post N (P ++ CR)))
    (fun k ts m' => ∃ CP CR P : List Wt, Hid (k = CR.length ∧ C = CP ++ CR ∧ PreT 20 CP P) ∧ ts 0 = .slice pb pre.length L cap ∧ ts 1 = .int .i64 L ∧ ts 2 = cameV ∧ ts 6 = .int .i64 20 ∧ ts 7 = .int .i64 (P.length : Nat) ∧ ts 8 = .int .i64 ((P.length + 20 : Nat) : Int) ∧ m' = hupd m pb (rowB pre post N (P ++ CR))) C.length
    ⟨[], C, [], .mk ⟨rfl, rfl, PreS.nil⟩, ttt, ttt, ttt, ttt, ttt, ttt, by
      funext x
      by_cases e : x = pb
      · rw [e, hupd_at, if_pos rfl]; exact HM.out
      · rw [hupd_ne e]⟩ ?_ ?_
  · rintro k ts m' ⟨CP, CR, P, H, t0, t1, t2, t6, t7, t8, rfl⟩
    have hP : Hid (CP.length = P.length ∧ P.length + CR.length = L) := .mk (by
      have q := H0.out; have h := H.out
      have := congrArg List.length h.2.1
      have l := h.2.2.1
      rw [List.length_append] at this
      omega)
    by_cases hb : P.length + 20 ≤ L
    · have lt : ((P.length + 20 : Nat) : Int) ≤ (L : Int) := by omega
      have w1 : IntKind.i64.wrap (((P.length + 20 : Nat) : Int) + 20) = ((P.length + 20 + 20 : Nat) : Int) := by rw [wrap_i64 (by omega) (by omega)]; omega
      obtain ⟨A, hA⟩ : ∃ A, A = CR.take 20 := ⟨_, rfl⟩
      obtain ⟨R, hR⟩ : ∃ R, R = CR.drop 20 := ⟨_, rfl⟩
      have hCR : CR = A ++ R := by rw [hA, hR, List.take_append_drop]
      have lA : A.length = 20 := by rw [hA, List.length_take]; have := hP.out; omega
      clear hA hR
      subst hCR
      have HA := Hid.mk lA
      clear lA
      repeat' (first | exact tf0 ‹_› | exact tf1 ‹_› | exact False.elim ‹_› | (with_reducible refine Al.intro ?_; intro pb hpb; (try simp only [hupd_none'] at hpb); (repeat rcases hpb with ⟨⟨hpx, hpy⟩, hpb⟩)) | with_reducible refine need ?_ | ((with_reducible first | refine frk0 ?_ ?_ | refine frk1 ?_ ?_ | refine frk2 ?_ ?_ | refine frk3 ?_ ?_ | refine frk4 ?_ ?_ | refine frk5 ?_ ?_ | refine frk6 ?_ ?_ | refine frk7 ?_ ?_ | refine frk8 ?_ ?_ | refine frk9 ?_ ?_) <;> intro h <;> try (exfalso; omega)) | with_reducible refine quiet_and ?_ ?_ | with_reducible refine awp_drawnA mixed (by decide +kernel) ?_ | ((fail_if_success with_reducible refine stp ?_); simp -implicitDefEqProofs only [go_sem, Nat.reduceEqDiff, Nat.reduceAdd, Nat.reduceLT, Nat.reduceMul, Nat.reduceSub, Nat.reduceLeDiff, ↓reduceIte, reduceCtorEq, ↓String.reduceEq, String.reduceNe, Int.reduceToNat, Int.reduceLT, Int.reduceLE, Int.reduceGT, Int.reduceGE, Int.reduceEq, Int.reduceNe, Int.reduceBEq, Int.reduceBNe, Int.reduceAdd, Int.reduceSub, Int.reduceMul, Int.reduceNeg,  *]))
      refine insert_spec G P A R (by
        have q := H0.out.2.2
        rw [H.out.2.1, List.pairwise_append] at q
        have q2 := q.2.1
        rw [List.pairwise_append] at q2
        exact q2.1) (by have := hP.out; simp only [List.length_append] at this ⊢; omega) pre post N pb L cap _ _ rfl (by rw [HA.out]) (by have := hP.out; simp only [List.length_append] at this ⊢; omega) _ _ (by rw [hupd_at, if_pos rfl]) ?_
      intro S s1 p1
      have HS := Hid.mk (And.intro s1 p1)
      clear s1 p1
      repeat' (first | exact tf0 ‹_› | exact tf1 ‹_› | exact False.elim ‹_› | (with_reducible refine Al.intro ?_; intro pb hpb; (try simp only [hupd_none'] at hpb); (repeat rcases hpb with ⟨⟨hpx, hpy⟩, hpb⟩)) | with_reducible refine need ?_ | ((with_reducible first | refine frk0 ?_ ?_ | refine frk1 ?_ ?_ | refine frk2 ?_ ?_ | refine frk3 ?_ ?_ | refine frk4 ?_ ?_ | refine frk5 ?_ ?_ | refine frk6 ?_ ?_ | refine frk7 ?_ ?_ | refine frk8 ?_ ?_ | refine frk9 ?_ ?_) <;> intro h <;> try (exfalso; omega)) | with_reducible refine quiet_and ?_ ?_ | with_reducible refine awp_drawnA mixed (by decide +kernel) ?_ | ((fail_if_success with_reducible refine stp ?_); simp -implicitDefEqProofs only [go_sem, Nat.reduceEqDiff, Nat.reduceAdd, Nat.reduceLT, Nat.reduceMul, Nat.reduceSub, Nat.reduceLeDiff, ↓reduceIte, reduceCtorEq, ↓String.reduceEq, String.reduceNe, Int.reduceToNat, Int.reduceLT, Int.reduceLE, Int.reduceGT, Int.reduceGE, Int.reduceEq, Int.reduceNe, Int.reduceBEq, Int.reduceBNe, Int.reduceAdd, Int.reduceSub, Int.reduceMul, Int.reduceNeg,  *]))
      exact Again.intro ⟨R.length, by have := H.out; have := HA.out; simp only [List.length_append] at *; omega, _, Sub.refl _, CP ++ A, R, P ++ S, .mk ⟨rfl, by rw [H.out.2.1, List.append_assoc], H.out.2.2.step HA.out HS.out.1 HS.out.2⟩, (by first | (simp only [upd, put, Nat.reduceEqDiff, ↓reduceIte, t0]; done) | (simp [upd, put, t0]; done) | rfl | (simp [upd, put, t0]; rfl)), (by first | (simp only [upd, put, Nat.reduceEqDiff, ↓reduceIte, t1]; done) | (simp [upd, put, t1]; done) | rfl | (simp [upd, put, t1]; rfl)), (by first | (simp only [upd, put, Nat.reduceEqDiff, ↓reduceIte, t2]; done) | (simp [upd, put, t2]; done) | rfl | (simp [upd, put, t2]; rfl)), (by first | (simp only [upd, put, Nat.reduceEqDiff, ↓reduceIte, t6]; done) | (simp [upd, put, t6]; done) | rfl | (simp [upd, put, t6]; rfl)), by rw [List.length_append, HS.out.2.length_eq, HA.out]; exact (ttt), by rw [List.length_append, HS.out.2.length_eq, HA.out]; exact (ttt), by rw [List.append_assoc]⟩
    · have lt : ¬ ((P.length + 20 : Nat) : Int) ≤ (L : Int) := by omega
      repeat' (first | exact tf0 ‹_› | exact tf1 ‹_› | exact False.elim ‹_› | (with_reducible refine Al.intro ?_; intro pb hpb; (try simp only [hupd_none'] at hpb); (repeat rcases hpb with ⟨⟨hpx, hpy⟩, hpb⟩)) | with_reducible refine need ?_ | ((with_reducible first | refine frk0 ?_ ?_ | refine frk1 ?_ ?_ | refine frk2 ?_ ?_ | refine frk3 ?_ ?_ | refine frk4 ?_ ?_ | refine frk5 ?_ ?_ | refine frk6 ?_ ?_ | refine frk7 ?_ ?_ | refine frk8 ?_ ?_ | refine frk9 ?_ ?_) <;> intro h <;> try (exfalso; omega)) | with_reducible refine quiet_and ?_ ?_ | with_reducible refine awp_drawnA mixed (by decide +kernel) ?_ | ((fail_if_success with_reducible refine stp ?_); simp -implicitDefEqProofs only [go_sem, Nat.reduceEqDiff, Nat.reduceAdd, Nat.reduceLT, Nat.reduceMul, Nat.reduceSub, Nat.reduceLeDiff, ↓reduceIte, reduceCtorEq, ↓String.reduceEq, String.reduceNe, Int.reduceToNat, Int.reduceLT, Int.reduceLE, Int.reduceGT, Int.reduceGE, Int.reduceEq, Int.reduceNe, Int.reduceBEq, Int.reduceBNe, Int.reduceAdd, Int.reduceSub, Int.reduceMul, Int.reduceNeg,  *]))
      exact Again.intro ⟨CP, CR, P, .mk ⟨H.out.2.1, by have := hP.out; omega, H.out.2.2⟩, (by first | (simp only [upd, put, Nat.reduceEqDiff, ↓reduceIte, t0]; done) | (simp [upd, put, t0]; done) | rfl | (simp [upd, put, t0]; rfl)), (by first | (simp only [upd, put, Nat.reduceEqDiff, ↓reduceIte, t1]; done) | (simp [upd, put, t1]; done) | rfl | (simp [upd, put, t1]; rfl)), (by first | (simp only [upd, put, Nat.reduceEqDiff, ↓reduceIte, t2]; done) | (simp [upd, put, t2]; done) | rfl | (simp [upd, put, t2]; rfl)), (by first | (simp only [upd, put, Nat.reduceEqDiff, ↓reduceIte, t6]; done) | (simp [upd, put, t6]; done) | rfl | (simp [upd, put, t6]; rfl)), (by first | (simp only [upd, put, Nat.reduceEqDiff, ↓reduceIte, t7]; done) | (simp [upd, put, t7]; done) | rfl | (simp [upd, put, t7]; rfl)), rfl⟩
  · rintro ts m' ⟨CP, CR, P, H, t0, t1, t2, t6, t7, rfl⟩
    have hP : Hid (CP.length = P.length ∧ P.length + CR.length = L) := .mk (by
      have q := H0.out; have h := H.out
      have := congrArg List.length h.1
      have l := h.2.2.1
      rw [List.length_append] at this
      omega)
    repeat' (first | exact tf0 ‹_› | exact tf1 ‹_› | exact False.elim ‹_› | (with_reducible refine Al.intro ?_; intro pb hpb; (try simp only [hupd_none'] at hpb); (repeat rcases hpb with ⟨⟨hpx, hpy⟩, hpb⟩)) | with_reducible refine need ?_ | ((with_reducible first | refine frk0 ?_ ?_ | refine frk1 ?_ ?_ | refine frk2 ?_ ?_ | refine frk3 ?_ ?_ | refine frk4 ?_ ?_ | refine frk5 ?_ ?_ | refine frk6 ?_ ?_ | refine frk7 ?_ ?_ | refine frk8 ?_ ?_ | refine frk9 ?_ ?_) <;> intro h <;> try (exfalso; omega)) | with_reducible refine quiet_and ?_ ?_ | with_reducible refine awp_drawnA mixed (by decide +kernel) ?_ | ((fail_if_success with_reducible refine stp ?_); simp -implicitDefEqProofs only [go_sem, Nat.reduceEqDiff, Nat.reduceAdd, Nat.reduceLT, Nat.reduceMul, Nat.reduceSub, Nat.reduceLeDiff, ↓reduceIte, reduceCtorEq, ↓String.reduceEq, String.reduceNe, Int.reduceToNat, Int.reduceLT, Int.reduceLE, Int.reduceGT, Int.reduceGE, Int.reduceEq, Int.reduceNe, Int.reduceBEq, Int.reduceBNe, Int.reduceAdd, Int.reduceSub, Int.reduceMul, Int.reduceNeg,  *]))
    refine insert_spec G P CR [] (by
      have q := H0.out.2.2
      rw [H.out.1, List.pairwise_append] at q
      exact q.2.1) (by have := hP.out; simp only [List.length_append, List.length_nil] at this ⊢; omega) pre post N pb L cap _ _ rfl (by have := hP.out; omega) (by have := hP.out; simp only [List.length_append, List.length_nil] at this ⊢; omega) _ _ (by rw [hupd_at, if_pos rfl, List.append_nil]) ?_
    intro S s1 p1
    have HG : Hid (GoodT 20 C (P ++ S)) := .mk (by rw [H.out.1]; exact H.out.2.2.last (by have := H.out; omega) s1 p1)
    clear s1 p1
    repeat' (first | exact tf0 ‹_› | exact tf1 ‹_› | exact False.elim ‹_› | (with_reducible refine Al.intro ?_; intro pb hpb; (try simp only [hupd_none'] at hpb); (repeat rcases hpb with ⟨⟨hpx, hpy⟩, hpb⟩)) | with_reducible refine need ?_ | ((with_reducible first | refine frk0 ?_ ?_ | refine frk1 ?_ ?_ | refine frk2 ?_ ?_ | refine frk3 ?_ ?_ | refine frk4 ?_ ?_ | refine frk5 ?_ ?_ | refine frk6 ?_ ?_ | refine frk7 ?_ ?_ | refine frk8 ?_ ?_ | refine frk9 ?_ ?_) <;> intro h <;> try (exfalso; omega)) | with_reducible refine quiet_and ?_ ?_ | with_reducible refine awp_drawnA mixed (by decide +kernel) ?_ | ((fail_if_success with_reducible refine stp ?_); simp -implicitDefEqProofs only [go_sem, Nat.reduceEqDiff, Nat.reduceAdd, Nat.reduceLT, Nat.reduceMul, Nat.reduceSub, Nat.reduceLeDiff, ↓reduceIte, reduceCtorEq, ↓String.reduceEq, String.reduceNe, Int.reduceToNat, Int.reduceLT, Int.reduceLE, Int.reduceGT, Int.reduceGE, Int.reduceEq, Int.reduceNe, Int.reduceBEq, Int.reduceBNe, Int.reduceAdd, Int.reduceSub, Int.reduceMul, Int.reduceNeg,  *]))
    refine awp_loopP 2 (fun ts m' => ∃ S : List Wt, Hid (S.Pairwise RT ∧ S.Perm C) ∧ m' = hupd m pb (rowB pre post N S))
      (fun k ts m' => ∃ (D : List Wt) (n : Nat), Hid (k = 1000 - n ∧ 20 ≤ n ∧ GoodT n C D) ∧ ts 0 = .slice pb pre.length L cap ∧ ts 1 = .int .i64 L ∧ ts 2 = cameV ∧ ts 6 = .int .i64 (n : Nat) ∧ m' = hupd m pb (rowB pre post N D)) (1000 - 20)
      ⟨P ++ S, 20, .mk ⟨rfl, Nat.le_refl _, HG.out⟩, (by first | (simp only [upd, put, Nat.reduceEqDiff, ↓reduceIte, t0]; done) | (simp [upd, put, t0]; done) | rfl | (simp [upd, put, t0]; rfl)), (by first | (simp only [upd, put, Nat.reduceEqDiff, ↓reduceIte, t1]; done) | (simp [upd, put, t1]; done) | rfl | (simp [upd, put, t1]; rfl)), (by first | (simp only [upd, put, Nat.reduceEqDiff, ↓reduceIte, t2]; done) | (simp [upd, put, t2]; done) | rfl | (simp [upd, put, t2]; rfl)), (by first | (simp only [upd, put, Nat.reduceEqDiff, ↓reduceIte, t6]; done) | (simp [upd, put, t6]; done) | rfl | (simp [upd, put, t6]; rfl)), by rw [hupd_hupd, List.append_nil]⟩ ?_ ?_
    · clear HG HM H hP t0 t1 t2 t6 t7
      rintro k ts m' ⟨D, n, H, t0, t1, t2, t6, rfl⟩
      by_cases hn : n < L
      · have lt : (n : Int) < (L : Int) := by omega
        have w1 : IntKind.i64.wrap (2 * (n : Int)) = ((2 * n : Nat) : Int) := by rw [wrap_i64 (by omega) (by omega)]; omega
        have w2 : IntKind.i64.wrap ((n : Int) * 2) = ((2 * n : Nat) : Int) := by rw [wrap_i64 (by omega) (by omega)]; omega
        repeat' (first | exact tf0 ‹_› | exact tf1 ‹_› | exact False.elim ‹_› | (with_reducible refine Al.intro ?_; intro pb hpb; (try simp only [hupd_none'] at hpb); (repeat rcases hpb with ⟨⟨hpx, hpy⟩, hpb⟩)) | with_reducible refine need ?_ | ((with_reducible first | refine frk0 ?_ ?_ | refine frk1 ?_ ?_ | refine frk2 ?_ ?_ | refine frk3 ?_ ?_ | refine frk4 ?_ ?_ | refine frk5 ?_ ?_ | refine frk6 ?_ ?_ | refine frk7 ?_ ?_ | refine frk8 ?_ ?_ | refine frk9 ?_ ?_) <;> intro h <;> try (exfalso; omega)) | with_reducible refine quiet_and ?_ ?_ | with_reducible refine awp_drawnA mixed (by decide +kernel) ?_ | ((fail_if_success with_reducible refine stp ?_); simp -implicitDefEqProofs only [go_sem, Nat.reduceEqDiff, Nat.reduceAdd, Nat.reduceLT, Nat.reduceMul, Nat.reduceSub, Nat.reduceLeDiff, ↓reduceIte, reduceCtorEq, ↓String.reduceEq, String.reduceNe, Int.reduceToNat, Int.reduceLT, Int.reduceLE, Int.reduceGT, Int.reduceGE, Int.reduceEq, Int.reduceNe, Int.reduceBEq, Int.reduceBNe, Int.reduceAdd, Int.reduceSub, Int.reduceMul, Int.reduceNeg,  *]))
        refine awp_loopP 4 (fun ts m' => ∃ CP CR P R : List Wt, Hid (C = CP ++ CR ∧ CR.length < 2 * n ∧ PreT (2 * n) CP P ∧ GoodT n CR R) ∧ ts 0 = .slice pb pre.length L cap ∧ ts 1 = .int .i64 L ∧ ts 2 = cameV ∧ ts 6 = .int .i64 (n : Nat) ∧ ts 7 = .int .i64 (P.length : Nat) ∧ m' = hupd m pb (rowB pre post N (P ++ R)))
          (fun k ts m' => ∃ CP CR P R : List Wt, Hid (k = CR.length ∧ C = CP ++ CR ∧ PreT (2 * n) CP P ∧ GoodT n CR R) ∧ ts 0 = .slice pb pre.length L cap ∧ ts 1 = .int .i64 L ∧ ts 2 = cameV ∧ ts 6 = .int .i64 (n : Nat) ∧ ts 7 = .int .i64 (P.length : Nat) ∧ ts 8 = .int .i64 ((P.length + 2 * n : Nat) : Int) ∧ m' = hupd m pb (rowB pre post N (P ++ R))) C.length
          ⟨[], C, [], D, .mk ⟨rfl, rfl, PreS.nil, H.out.2.2⟩, (by first | (simp only [upd, put, Nat.reduceEqDiff, ↓reduceIte, t0]; done) | (simp [upd, put, t0]; done) | rfl | (simp [upd, put, t0]; rfl)), (by first | (simp only [upd, put, Nat.reduceEqDiff, ↓reduceIte, t1]; done) | (simp [upd, put, t1]; done) | rfl | (simp [upd, put, t1]; rfl)), (by first | (simp only [upd, put, Nat.reduceEqDiff, ↓reduceIte, t2]; done) | (simp [upd, put, t2]; done) | rfl | (simp [upd, put, t2]; rfl)), (by first | (simp only [upd, put, Nat.reduceEqDiff, ↓reduceIte, t6]; done) | (simp [upd, put, t6]; done) | rfl | (simp [upd, put, t6]; rfl)), ttt, by rw [List.length_nil, Nat.zero_add]; exact (ttt), rfl⟩ ?_ ?_
        · rintro k ts m' ⟨CP, CR, P, R, H2, t0, t1, t2, t6, t7, t8, rfl⟩
          have hP : Hid (CP.length = P.length ∧ P.length + CR.length = L ∧ CR.length = R.length) := .mk (by
            have q := H0.out; have h := H2.out
            have e := congrArg List.length h.2.1
            have l := h.2.2.1.1
            have p := h.2.2.2.perm.length_eq
            rw [List.length_append] at e
            omega)
          by_cases hb : P.length + 2 * n ≤ L
          · have lt : ((P.length + 2 * n : Nat) : Int) ≤ (L : Int) := by omega
            have w3 : IntKind.i64.wrap ((P.length : Int) + (n : Int)) = ((P.length + n : Nat) : Int) := by rw [wrap_i64 (by omega) (by omega)]; omega
            have w4 : IntKind.i64.wrap (((P.length + 2 * n : Nat) : Int) + ((2 * n : Nat) : Int)) = ((P.length + 2 * n + 2 * n : Nat) : Int) := by rw [wrap_i64 (by omega) (by omega)]; omega
            repeat' (first | exact tf0 ‹_› | exact tf1 ‹_› | exact False.elim ‹_› | (with_reducible refine Al.intro ?_; intro pb hpb; (try simp only [hupd_none'] at hpb); (repeat rcases hpb with ⟨⟨hpx, hpy⟩, hpb⟩)) | with_reducible refine need ?_ | ((with_reducible first | refine frk0 ?_ ?_ | refine frk1 ?_ ?_ | refine frk2 ?_ ?_ | refine frk3 ?_ ?_ | refine frk4 ?_ ?_ | refine frk5 ?_ ?_ | refine frk6 ?_ ?_ | refine frk7 ?_ ?_ | refine frk8 ?_ ?_ | refine frk9 ?_ ?_) <;> intro h <;> try (exfalso; omega)) | with_reducible refine quiet_and ?_ ?_ | with_reducible refine awp_drawnA mixed (by decide +kernel) ?_ | ((fail_if_success with_reducible refine stp ?_); simp -implicitDefEqProofs only [go_sem, Nat.reduceEqDiff, Nat.reduceAdd, Nat.reduceLT, Nat.reduceMul, Nat.reduceSub, Nat.reduceLeDiff, ↓reduceIte, reduceCtorEq, ↓String.reduceEq, String.reduceNe, Int.reduceToNat, Int.reduceLT, Int.reduceLE, Int.reduceGT, Int.reduceGE, Int.reduceEq, Int.reduceNe, Int.reduceBEq, Int.reduceBNe, Int.reduceAdd, Int.reduceSub, Int.reduceMul, Int.reduceNeg,  *]))
            obtain ⟨A1, S1, C1, D1, rfl, rfl, l1, s1, p1, g1⟩ := H2.out.2.2.2.pop (by have := H.out; omega) (by have := hP.out; omega)
            obtain ⟨A2, S2, C2, D2, rfl, rfl, l2, s2, p2, g2⟩ := g1.pop (by have := H.out; omega) (by have := hP.out; rw [List.length_append] at this; omega)
            have k1 := p1.length_eq
            have k2 := p2.length_eq
            have hb20 := H.out.2.1
            have q3 := hP.out
            simp only [List.length_append] at q3
            refine merge_spec G pre post N pb L cap hL1 _ S1 S2 (Nat.le_refl _) (by omega) (by omega) (two_of (by rw [← H2.out.2.1]; exact H0.out.2.2) s1 p1 s2 p2) P D2 _ _ _ _ _ (by simp only [List.length_append]; omega) rfl (by omega) (by omega) (by rw [hupd_at, if_pos rfl]) ?_
            intro S s p
            have HS := Hid.mk (And.intro s (p.trans (p1.append p2)))
            have HG := Hid.mk g2
            have HLen := Hid.mk (And.intro l1 l2)
            clear s p g1 g2 s1 s2 p1 p2 l1 l2 k1 k2 hb20 q3
            repeat' (first | exact tf0 ‹_› | exact tf1 ‹_› | exact False.elim ‹_› | (with_reducible refine Al.intro ?_; intro pb hpb; (try simp only [hupd_none'] at hpb); (repeat rcases hpb with ⟨⟨hpx, hpy⟩, hpb⟩)) | with_reducible refine need ?_ | ((with_reducible first | refine frk0 ?_ ?_ | refine frk1 ?_ ?_ | refine frk2 ?_ ?_ | refine frk3 ?_ ?_ | refine frk4 ?_ ?_ | refine frk5 ?_ ?_ | refine frk6 ?_ ?_ | refine frk7 ?_ ?_ | refine frk8 ?_ ?_ | refine frk9 ?_ ?_) <;> intro h <;> try (exfalso; omega)) | with_reducible refine quiet_and ?_ ?_ | with_reducible refine awp_drawnA mixed (by decide +kernel) ?_ | ((fail_if_success with_reducible refine stp ?_); simp -implicitDefEqProofs only [go_sem, Nat.reduceEqDiff, Nat.reduceAdd, Nat.reduceLT, Nat.reduceMul, Nat.reduceSub, Nat.reduceLeDiff, ↓reduceIte, reduceCtorEq, ↓String.reduceEq, String.reduceNe, Int.reduceToNat, Int.reduceLT, Int.reduceLE, Int.reduceGT, Int.reduceGE, Int.reduceEq, Int.reduceNe, Int.reduceBEq, Int.reduceBNe, Int.reduceAdd, Int.reduceSub, Int.reduceMul, Int.reduceNeg,  *]))
            have eS : (P ++ S).length = P.length + 2 * n := by rw [List.length_append, HS.out.2.length_eq, List.length_append]; have := HLen.out; omega
            exact Again.intro ⟨C2.length, by have := H2.out; have := HLen.out; have := H.out; simp only [List.length_append] at *; omega, _, Sub.refl _, CP ++ (A1 ++ A2), C2, P ++ S, D2, .mk ⟨rfl, by rw [H2.out.2.1]; simp only [List.append_assoc], H2.out.2.2.1.step (by rw [List.length_append]; have := HLen.out; omega) HS.out.1 HS.out.2, HG.out⟩, (by first | (simp only [upd, put, Nat.reduceEqDiff, ↓reduceIte, t0]; done) | (simp [upd, put, t0]; done) | rfl | (simp [upd, put, t0]; rfl)), (by first | (simp only [upd, put, Nat.reduceEqDiff, ↓reduceIte, t1]; done) | (simp [upd, put, t1]; done) | rfl | (simp [upd, put, t1]; rfl)), (by first | (simp only [upd, put, Nat.reduceEqDiff, ↓reduceIte, t2]; done) | (simp [upd, put, t2]; done) | rfl | (simp [upd, put, t2]; rfl)), (by first | (simp only [upd, put, Nat.reduceEqDiff, ↓reduceIte, t6]; done) | (simp [upd, put, t6]; done) | rfl | (simp [upd, put, t6]; rfl)), by rw [eS]; exact (ttt), by rw [eS]; exact (ttt), by simp only [hupd_hupd, List.append_assoc]⟩
          · have lt : ¬ ((P.length + 2 * n : Nat) : Int) ≤ (L : Int) := by omega
            repeat' (first | exact tf0 ‹_› | exact tf1 ‹_› | exact False.elim ‹_› | (with_reducible refine Al.intro ?_; intro pb hpb; (try simp only [hupd_none'] at hpb); (repeat rcases hpb with ⟨⟨hpx, hpy⟩, hpb⟩)) | with_reducible refine need ?_ | ((with_reducible first | refine frk0 ?_ ?_ | refine frk1 ?_ ?_ | refine frk2 ?_ ?_ | refine frk3 ?_ ?_ | refine frk4 ?_ ?_ | refine frk5 ?_ ?_ | refine frk6 ?_ ?_ | refine frk7 ?_ ?_ | refine frk8 ?_ ?_ | refine frk9 ?_ ?_) <;> intro h <;> try (exfalso; omega)) | with_reducible refine quiet_and ?_ ?_ | with_reducible refine awp_drawnA mixed (by decide +kernel) ?_ | ((fail_if_success with_reducible refine stp ?_); simp -implicitDefEqProofs only [go_sem, Nat.reduceEqDiff, Nat.reduceAdd, Nat.reduceLT, Nat.reduceMul, Nat.reduceSub, Nat.reduceLeDiff, ↓reduceIte, reduceCtorEq, ↓String.reduceEq, String.reduceNe, Int.reduceToNat, Int.reduceLT, Int.reduceLE, Int.reduceGT, Int.reduceGE, Int.reduceEq, Int.reduceNe, Int.reduceBEq, Int.reduceBNe, Int.reduceAdd, Int.reduceSub, Int.reduceMul, Int.reduceNeg,  *]))
            exact Again.intro ⟨CP, CR, P, R, .mk ⟨H2.out.2.1, by have := hP.out; omega, H2.out.2.2⟩, (by first | (simp only [upd, put, Nat.reduceEqDiff, ↓reduceIte, t0]; done) | (simp [upd, put, t0]; done) | rfl | (simp [upd, put, t0]; rfl)), (by first | (simp only [upd, put, Nat.reduceEqDiff, ↓reduceIte, t1]; done) | (simp [upd, put, t1]; done) | rfl | (simp [upd, put, t1]; rfl)), (by first | (simp only [upd, put, Nat.reduceEqDiff, ↓reduceIte, t2]; done) | (simp [upd, put, t2]; done) | rfl | (simp [upd, put, t2]; rfl)), (by first | (simp only [upd, put, Nat.reduceEqDiff, ↓reduceIte, t6]; done) | (simp [upd, put, t6]; done) | rfl | (simp [upd, put, t6]; rfl)), (by first | (simp only [upd, put, Nat.reduceEqDiff, ↓reduceIte, t7]; done) | (simp [upd, put, t7]; done) | rfl | (simp [upd, put, t7]; rfl)), rfl⟩
        · rintro ts m' ⟨CP, CR, P, R, H2, t0, t1, t2, t6, t7, rfl⟩
          have hP : Hid (CP.length = P.length ∧ P.length + CR.length = L ∧ CR.length = R.length) := .mk (by
            have q := H0.out; have h := H2.out
            have e := congrArg List.length h.1
            have l := h.2.2.1.1
            have p := h.2.2.2.perm.length_eq
            rw [List.length_append] at e
            omega)
          have hPL : P.length ≤ L := by have := hP.out; omega
          have w3 : IntKind.i64.wrap ((P.length : Int) + (n : Int)) = ((P.length + n : Nat) : Int) := by rw [wrap_i64 (by omega) (by omega)]; omega
          by_cases hb : P.length + n < L
          · have lt2 : ((P.length + n : Nat) : Int) < (L : Int) := by omega
            repeat' (first | exact tf0 ‹_› | exact tf1 ‹_› | exact False.elim ‹_› | (with_reducible refine Al.intro ?_; intro pb hpb; (try simp only [hupd_none'] at hpb); (repeat rcases hpb with ⟨⟨hpx, hpy⟩, hpb⟩)) | with_reducible refine need ?_ | ((with_reducible first | refine frk0 ?_ ?_ | refine frk1 ?_ ?_ | refine frk2 ?_ ?_ | refine frk3 ?_ ?_ | refine frk4 ?_ ?_ | refine frk5 ?_ ?_ | refine frk6 ?_ ?_ | refine frk7 ?_ ?_ | refine frk8 ?_ ?_ | refine frk9 ?_ ?_) <;> intro h <;> try (exfalso; omega)) | with_reducible refine quiet_and ?_ ?_ | with_reducible refine awp_drawnA mixed (by decide +kernel) ?_ | ((fail_if_success with_reducible refine stp ?_); simp -implicitDefEqProofs only [go_sem, Nat.reduceEqDiff, Nat.reduceAdd, Nat.reduceLT, Nat.reduceMul, Nat.reduceSub, Nat.reduceLeDiff, ↓reduceIte, reduceCtorEq, ↓String.reduceEq, String.reduceNe, Int.reduceToNat, Int.reduceLT, Int.reduceLE, Int.reduceGT, Int.reduceGE, Int.reduceEq, Int.reduceNe, Int.reduceBEq, Int.reduceBNe, Int.reduceAdd, Int.reduceSub, Int.reduceMul, Int.reduceNeg,  *]))
            obtain ⟨A1, S1, C1, D1, rfl, rfl, l1, s1, p1, g1⟩ := H2.out.2.2.2.pop (by have := H.out; omega) (by have := hP.out; omega)
            have q3 := hP.out
            simp only [List.length_append] at q3
            obtain ⟨s2, p2⟩ := g1.one (by have := H.out; omega) (by have := H2.out.2.1; rw [List.length_append] at this; omega)
            have k1 := p1.length_eq
            have k2 := p2.length_eq
            have hb20 := H.out.2.1
            refine merge_spec G pre post N pb L cap hL1 _ S1 D1 (Nat.le_refl _) (by omega) (by omega) (two_of (CP := CP) (R := []) (by rw [List.append_nil, ← H2.out.1]; exact H0.out.2.2) s1 p1 s2 p2) P [] _ _ _ _ _ (by simp only [List.length_append, List.length_nil]; omega) rfl (by omega) (by omega) (by rw [hupd_at, if_pos rfl, List.append_nil]) ?_
            intro S s p
            have HS := Hid.mk (And.intro s (p.trans (p1.append p2)))
            clear s p g1 s1 s2 p1 p2 l1 k1 k2 hb20 q3
            repeat' (first | exact tf0 ‹_› | exact tf1 ‹_› | exact False.elim ‹_› | (with_reducible refine Al.intro ?_; intro pb hpb; (try simp only [hupd_none'] at hpb); (repeat rcases hpb with ⟨⟨hpx, hpy⟩, hpb⟩)) | with_reducible refine need ?_ | ((with_reducible first | refine frk0 ?_ ?_ | refine frk1 ?_ ?_ | refine frk2 ?_ ?_ | refine frk3 ?_ ?_ | refine frk4 ?_ ?_ | refine frk5 ?_ ?_ | refine frk6 ?_ ?_ | refine frk7 ?_ ?_ | refine frk8 ?_ ?_ | refine frk9 ?_ ?_) <;> intro h <;> try (exfalso; omega)) | with_reducible refine quiet_and ?_ ?_ | with_reducible refine awp_drawnA mixed (by decide +kernel) ?_ | ((fail_if_success with_reducible refine stp ?_); simp -implicitDefEqProofs only [go_sem, Nat.reduceEqDiff, Nat.reduceAdd, Nat.reduceLT, Nat.reduceMul, Nat.reduceSub, Nat.reduceLeDiff, ↓reduceIte, reduceCtorEq, ↓String.reduceEq, String.reduceNe, Int.reduceToNat, Int.reduceLT, Int.reduceLE, Int.reduceGT, Int.reduceGE, Int.reduceEq, Int.reduceNe, Int.reduceBEq, Int.reduceBNe, Int.reduceAdd, Int.reduceSub, Int.reduceMul, Int.reduceNeg,  *]))
            exact Again.intro ⟨1000 - 2 * n, by have := H.out; omega, _, Sub.refl _, P ++ S, 2 * n, .mk ⟨rfl, by have := H.out; omega, by rw [H2.out.1]; exact H2.out.2.2.1.last (by have := H2.out; omega) HS.out.1 HS.out.2⟩, (by first | (simp only [upd, put, Nat.reduceEqDiff, ↓reduceIte, t0]; done) | (simp [upd, put, t0]; done) | rfl | (simp [upd, put, t0]; rfl)), (by first | (simp only [upd, put, Nat.reduceEqDiff, ↓reduceIte, t1]; done) | (simp [upd, put, t1]; done) | rfl | (simp [upd, put, t1]; rfl)), (by first | (simp only [upd, put, Nat.reduceEqDiff, ↓reduceIte, t2]; done) | (simp [upd, put, t2]; done) | rfl | (simp [upd, put, t2]; rfl)), ttt, by first | rfl | (rw [hupd_hupd, List.append_nil])⟩
          · have lt2 : ¬ ((P.length + n : Nat) : Int) < (L : Int) := by omega
            repeat' (first | exact tf0 ‹_› | exact tf1 ‹_› | exact False.elim ‹_› | (with_reducible refine Al.intro ?_; intro pb hpb; (try simp only [hupd_none'] at hpb); (repeat rcases hpb with ⟨⟨hpx, hpy⟩, hpb⟩)) | with_reducible refine need ?_ | ((with_reducible first | refine frk0 ?_ ?_ | refine frk1 ?_ ?_ | refine frk2 ?_ ?_ | refine frk3 ?_ ?_ | refine frk4 ?_ ?_ | refine frk5 ?_ ?_ | refine frk6 ?_ ?_ | refine frk7 ?_ ?_ | refine frk8 ?_ ?_ | refine frk9 ?_ ?_) <;> intro h <;> try (exfalso; omega)) | with_reducible refine quiet_and ?_ ?_ | with_reducible refine awp_drawnA mixed (by decide +kernel) ?_ | ((fail_if_success with_reducible refine stp ?_); simp -implicitDefEqProofs only [go_sem, Nat.reduceEqDiff, Nat.reduceAdd, Nat.reduceLT, Nat.reduceMul, Nat.reduceSub, Nat.reduceLeDiff, ↓reduceIte, reduceCtorEq, ↓String.reduceEq, String.reduceNe, Int.reduceToNat, Int.reduceLT, Int.reduceLE, Int.reduceGT, Int.reduceGE, Int.reduceEq, Int.reduceNe, Int.reduceBEq, Int.reduceBNe, Int.reduceAdd, Int.reduceSub, Int.reduceMul, Int.reduceNeg,  *]))
            obtain ⟨s2, p2⟩ := H2.out.2.2.2.one (by have := H.out; omega) (by have := hP.out; omega)
            exact Again.intro ⟨1000 - 2 * n, by have := H.out; omega, _, Sub.refl _, P ++ R, 2 * n, .mk ⟨rfl, by have := H.out; omega, by rw [H2.out.1]; exact H2.out.2.2.1.last (by have := H2.out; omega) s2 p2⟩, (by first | (simp only [upd, put, Nat.reduceEqDiff, ↓reduceIte, t0]; done) | (simp [upd, put, t0]; done) | rfl | (simp [upd, put, t0]; rfl)), (by first | (simp only [upd, put, Nat.reduceEqDiff, ↓reduceIte, t1]; done) | (simp [upd, put, t1]; done) | rfl | (simp [upd, put, t1]; rfl)), (by first | (simp only [upd, put, Nat.reduceEqDiff, ↓reduceIte, t2]; done) | (simp [upd, put, t2]; done) | rfl | (simp [upd, put, t2]; rfl)), ttt, rfl⟩
      · have lt : ¬ (n : Int) < (L : Int) := by omega
        repeat' (first | exact tf0 ‹_› | exact tf1 ‹_› | exact False.elim ‹_› | (with_reducible refine Al.intro ?_; intro pb hpb; (try simp only [hupd_none'] at hpb); (repeat rcases hpb with ⟨⟨hpx, hpy⟩, hpb⟩)) | with_reducible refine need ?_ | ((with_reducible first | refine frk0 ?_ ?_ | refine frk1 ?_ ?_ | refine frk2 ?_ ?_ | refine frk3 ?_ ?_ | refine frk4 ?_ ?_ | refine frk5 ?_ ?_ | refine frk6 ?_ ?_ | refine frk7 ?_ ?_ | refine frk8 ?_ ?_ | refine frk9 ?_ ?_) <;> intro h <;> try (exfalso; omega)) | with_reducible refine quiet_and ?_ ?_ | with_reducible refine awp_drawnA mixed (by decide +kernel) ?_ | ((fail_if_success with_reducible refine stp ?_); simp -implicitDefEqProofs only [go_sem, Nat.reduceEqDiff, Nat.reduceAdd, Nat.reduceLT, Nat.reduceMul, Nat.reduceSub, Nat.reduceLeDiff, ↓reduceIte, reduceCtorEq, ↓String.reduceEq, String.reduceNe, Int.reduceToNat, Int.reduceLT, Int.reduceLE, Int.reduceGT, Int.reduceGE, Int.reduceEq, Int.reduceNe, Int.reduceBEq, Int.reduceBNe, Int.reduceAdd, Int.reduceSub, Int.reduceMul, Int.reduceNeg,  *]))
        exact Again.intro ⟨D, .mk (H.out.2.2.one (by have := H.out; omega) (by have := H0.out; omega)), rfl⟩
    · rintro ts m' ⟨S, H, rfl⟩
      repeat' (first | exact tf0 ‹_› | exact tf1 ‹_› | exact False.elim ‹_› | (with_reducible refine Al.intro ?_; intro pb hpb; (try simp only [hupd_none'] at hpb); (repeat rcases hpb with ⟨⟨hpx, hpy⟩, hpb⟩)) | with_reducible refine need ?_ | ((with_reducible first | refine frk0 ?_ ?_ | refine frk1 ?_ ?_ | refine frk2 ?_ ?_ | refine frk3 ?_ ?_ | refine frk4 ?_ ?_ | refine frk5 ?_ ?_ | refine frk6 ?_ ?_ | refine frk7 ?_ ?_ | refine frk8 ?_ ?_ | refine frk9 ?_ ?_) <;> intro h <;> try (exfalso; omega)) | with_reducible refine quiet_and ?_ ?_ | with_reducible refine awp_drawnA mixed (by decide +kernel) ?_ | ((fail_if_success with_reducible refine stp ?_); simp -implicitDefEqProofs only [go_sem, Nat.reduceEqDiff, Nat.reduceAdd, Nat.reduceLT, Nat.reduceMul, Nat.reduceSub, Nat.reduceLeDiff, ↓reduceIte, reduceCtorEq, ↓String.reduceEq, String.reduceNe, Int.reduceToNat, Int.reduceLT, Int.reduceLE, Int.reduceGT, Int.reduceGE, Int.reduceEq, Int.reduceNe, Int.reduceBEq, Int.reduceBNe, Int.reduceAdd, Int.reduceSub, Int.reduceMul, Int.reduceNeg,  *]))
      exact ⟨_, Sub.refl _, HK.out S H.out.1 H.out.2⟩
end Go.Proofs.Ytmifapnmlhchlaa
