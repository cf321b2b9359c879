/- Outcomes come in whatever order: the rows are the same. -/
import Derived.Test.YtdckcophbmnjjaaDoorW18
set_option linter.all false
namespace Go.Proofs.YtdckcophbmnjjaaDoor
open Go Go.Proofs.YtdckcophbmnjjaaDoor.Ab
open Go.Proofs (Tryd.prog)
set_option maxRecDepth 100000
set_option maxHeartbeats 8000000 in
theorem tallyOrder_spec (G : Nat → AVal) (hG : DivOK G) (C : List Stm) (hl : C.length < 9223372036854775808) (A : List Act) (hA : A.length < 9223372036854775808) (m : Heap) :
    CallWP Tryd.prog G 4 [.list 7 (C.map encS), .list 10 (A.map encA)] m fun v m' => v = .bool true ∧ m' = m := by
  have HL := Hid.mk (And.intro hG (And.intro hl hA))
  obtain ⟨n, hn⟩ : ∃ n, n = A.length := ⟨_, rfl⟩
  have ll : (A.map encA).length = n := by rw [List.length_map]; exact hn.symm
  have HN := Hid.mk hn
  obtain ⟨w, hw⟩ : ∃ w, w = min n 40 := ⟨_, rfl⟩
  have hw40 : w ≤ 40 := by omega
  have hwn : w ≤ n := by omega
  have wmin : imn (n : Int) 40 = (w : Int) := by unfold imn; split <;> omega
  have wmin2 : imn 40 (n : Int) = (w : Int) := by unfold imn; split <;> omega
  clear hG hl hA hn hw
  refine callWP_body Tryd.func4 rfl (N := 140) rfl (rs := [.tmp 4]) rfl en_4 (of_decide_eq_true rfl) ?_
  repeat' (first | exact tf0 ‹_› | exact tf1 ‹_› | exact False.elim ‹_› | (with_reducible refine Al.intro ?_; intro pb hpb; (try simp only [hupd_none'] at hpb); (repeat rcases hpb with ⟨⟨hpx, hpy⟩, hpb⟩)) | with_reducible refine need ?_ | ((with_reducible first | refine frk0 ?_ ?_ | refine frk1 ?_ ?_ | refine frk2 ?_ ?_ | refine frk3 ?_ ?_ | refine frk4 ?_ ?_ | refine frk5 ?_ ?_ | refine frk6 ?_ ?_ | refine frk7 ?_ ?_ | refine frk8 ?_ ?_ | refine frk9 ?_ ?_) <;> intro h <;> try (exfalso; omega)) | with_reducible refine quiet_and ?_ ?_ | with_reducible refine awp_drawnA mixed (by decide +kernel) ?_ | ((fail_if_success with_reducible refine stp ?_); simp -implicitDefEqProofs only [go_sem, Nat.reduceEqDiff, Nat.reduceAdd, Nat.reduceLT, Nat.reduceMul, Nat.reduceSub, Nat.reduceLeDiff, ↓reduceIte, reduceCtorEq, ↓String.reduceEq, String.reduceNe, Int.reduceToNat, Int.reduceLT, Int.reduceLE, Int.reduceGT, Int.reduceGE, Int.reduceEq, Int.reduceNe, Int.reduceBEq, Int.reduceBNe, Int.reduceAdd, Int.reduceSub, Int.reduceMul, Int.reduceNeg,  *]))
  refine few_spec G C HL.out.2.1 m _ (fun v m1 hs hs1 hf => ?_)
  obtain ⟨S, hS⟩ : ∃ S, fewN C 6 = S := ⟨_, rfl⟩
  have hrC := few_rightC C 1 (by decide) (by decide)
  rw [hS] at hs hrC
  have hSl : S.length ≤ 6 := by rw [← hS, few_len]; omega
  have HS := Hid.mk (And.intro hs (And.intro hs1 (And.intro hSl hrC)))
  obtain ⟨LL, hLL⟩ : ∃ LL, LL = S.length := ⟨_, rfl⟩
  have HLL := Hid.mk hLL
  have hL6 : LL ≤ 6 := by omega
  clear hs hs1 hf hS hSl hrC hLL
  repeat' (first | exact tf0 ‹_› | exact tf1 ‹_› | exact False.elim ‹_› | (with_reducible refine Al.intro ?_; intro pb hpb; (try simp only [hupd_none'] at hpb); (repeat rcases hpb with ⟨⟨hpx, hpy⟩, hpb⟩)) | with_reducible refine need ?_ | ((with_reducible first | refine frk0 ?_ ?_ | refine frk1 ?_ ?_ | refine frk2 ?_ ?_ | refine frk3 ?_ ?_ | refine frk4 ?_ ?_ | refine frk5 ?_ ?_ | refine frk6 ?_ ?_ | refine frk7 ?_ ?_ | refine frk8 ?_ ?_ | refine frk9 ?_ ?_) <;> intro h <;> try (exfalso; omega)) | with_reducible refine quiet_and ?_ ?_ | with_reducible refine awp_drawnA mixed (by decide +kernel) ?_ | ((fail_if_success with_reducible refine stp ?_); simp -implicitDefEqProofs only [go_sem, Nat.reduceEqDiff, Nat.reduceAdd, Nat.reduceLT, Nat.reduceMul, Nat.reduceSub, Nat.reduceLeDiff, ↓reduceIte, reduceCtorEq, ↓String.reduceEq, String.reduceNe, Int.reduceToNat, Int.reduceLT, Int.reduceLE, Int.reduceGT, Int.reduceGE, Int.reduceEq, Int.reduceNe, Int.reduceBEq, Int.reduceBNe, Int.reduceAdd, Int.reduceSub, Int.reduceMul, Int.reduceNeg,  *]))
  refine new_spec G HL.out.1 S (by have := HS.out.2.2.1; omega) v m1 (.inl HS.out.1) _ (fun _ K hK => clone_spec G S (by have := HS.out.2.2.1; omega) v m1 HS.out.1 K hK) (fun e he hn => absurd HS.out.2.2.2 hn) (fun T M1 _ hR hsub hown hv => ?_)
  have HT := Hid.mk (And.intro hR (And.intro hsub (And.intro hown hv)))
  clear hR hsub hown hv
  repeat' (first | exact tf0 ‹_› | exact tf1 ‹_› | exact False.elim ‹_› | (with_reducible refine Al.intro ?_; intro pb hpb; (try simp only [hupd_none'] at hpb); (repeat rcases hpb with ⟨⟨hpx, hpy⟩, hpb⟩)) | with_reducible refine need ?_ | ((with_reducible first | refine frk0 ?_ ?_ | refine frk1 ?_ ?_ | refine frk2 ?_ ?_ | refine frk3 ?_ ?_ | refine frk4 ?_ ?_ | refine frk5 ?_ ?_ | refine frk6 ?_ ?_ | refine frk7 ?_ ?_ | refine frk8 ?_ ?_ | refine frk9 ?_ ?_) <;> intro h <;> try (exfalso; omega)) | with_reducible refine quiet_and ?_ ?_ | with_reducible refine awp_drawnA mixed (by decide +kernel) ?_ | ((fail_if_success with_reducible refine stp ?_); simp -implicitDefEqProofs only [go_sem, Nat.reduceEqDiff, Nat.reduceAdd, Nat.reduceLT, Nat.reduceMul, Nat.reduceSub, Nat.reduceLeDiff, ↓reduceIte, reduceCtorEq, ↓String.reduceEq, String.reduceNe, Int.reduceToNat, Int.reduceLT, Int.reduceLE, Int.reduceGT, Int.reduceGE, Int.reduceEq, Int.reduceNe, Int.reduceBEq, Int.reduceBNe, Int.reduceAdd, Int.reduceSub, Int.reduceMul, Int.reduceNeg,  *]))
  have hs2 : SlM encSc 7 S v M1 := HS.out.1.into HT.out.2.1
  have HS2 := Hid.mk hs2
  clear hs2
  refine new_spec G HL.out.1 S (by have := HS.out.2.2.1; omega) v M1 (.inl HS2.out) _ (fun _ K hK => clone_spec G S (by have := HS.out.2.2.1; omega) v M1 HS2.out K hK) (fun e he hn => absurd HS.out.2.2.2 hn) (fun U M2 _ hR hsub hown hv => ?_)
  have HU := Hid.mk (And.intro hR (And.intro hsub (And.intro (fun c hc => HT.out.2.1.gone (hown c hc)) (And.intro (fun c hc => HT.out.2.1.gone (hv c hc)) (And.intro hown hv)))))
  have HT2 := Hid.mk (And.intro (HT.out.1.into hsub) (subTrans HT.out.2.1 hsub))
  clear hR hsub hown hv
  have HD : Hid ((∀ c, T.own S c → ¬ U.own S c) ∧ (∀ c, bOf T.v = some c → ¬ U.own S c) ∧ (∀ c, U.own S c → ¬ T.own S c) ∧ (∀ c, bOf U.v = some c → ¬ T.own S c)) := .mk ⟨fun c h1 h2 => HT.out.1.owned h1 (HU.out.2.2.2.2.1 c h2), fun c h1 h2 => (slm_some HT.out.1.str h1) (HU.out.2.2.2.2.1 c h2), fun c h1 h2 => HT.out.1.owned h2 (HU.out.2.2.2.2.1 c h1), fun c h1 h2 => HT.out.1.owned h2 (HU.out.2.2.2.2.2 c h1)⟩
  repeat' (first | exact tf0 ‹_› | exact tf1 ‹_› | exact False.elim ‹_› | (with_reducible refine Al.intro ?_; intro pb hpb; (try simp only [hupd_none'] at hpb); (repeat rcases hpb with ⟨⟨hpx, hpy⟩, hpb⟩)) | with_reducible refine need ?_ | ((with_reducible first | refine frk0 ?_ ?_ | refine frk1 ?_ ?_ | refine frk2 ?_ ?_ | refine frk3 ?_ ?_ | refine frk4 ?_ ?_ | refine frk5 ?_ ?_ | refine frk6 ?_ ?_ | refine frk7 ?_ ?_ | refine frk8 ?_ ?_ | refine frk9 ?_ ?_) <;> intro h <;> try (exfalso; omega)) | with_reducible refine quiet_and ?_ ?_ | with_reducible refine awp_drawnA mixed (by decide +kernel) ?_ | ((fail_if_success with_reducible refine stp ?_); simp -implicitDefEqProofs only [go_sem, Nat.reduceEqDiff, Nat.reduceAdd, Nat.reduceLT, Nat.reduceMul, Nat.reduceSub, Nat.reduceLeDiff, ↓reduceIte, reduceCtorEq, ↓String.reduceEq, String.reduceNe, Int.reduceToNat, Int.reduceLT, Int.reduceLE, Int.reduceGT, Int.reduceGE, Int.reduceEq, Int.reduceNe, Int.reduceBEq, Int.reduceBNe, Int.reduceAdd, Int.reduceSub, Int.reduceMul, Int.reduceNeg,  *]))
  refine awp_loopP 0 (fun ts m' => ∃ L : List Ntd, Hid (Rep T S L m' ∧ Rep U S L m' ∧ Sub m1 m' ∧ GoodL S L ∧ (L.Pairwise fun a b => a.1 ≠ b.1) ∧ L.length ≤ w) ∧ ts 1 = .list 10 (A.map encA) ∧ ts 5 = v ∧ ts 6 = .ptr T.tb 0 ∧ ts 8 = .ptr U.tb 0 ∧ ts 10 = .int .i64 (w : Nat))
    (fun kk ts m' => ∃ (k : Nat) (L : List Ntd), Hid (kk = w - k ∧ k ≤ w ∧ Rep T S L m' ∧ Rep U S L m' ∧ Sub m1 m' ∧ GoodL S L ∧ (L.Pairwise fun a b => a.1 ≠ b.1) ∧ (∀ x ∈ L, x.1 < (k : Int)) ∧ L.length ≤ k) ∧ ts 1 = .list 10 (A.map encA) ∧ ts 5 = v ∧ ts 6 = .ptr T.tb 0 ∧ ts 8 = .ptr U.tb 0 ∧ ts 10 = .int .i64 (w : Nat) ∧ ts 11 = .int .i64 (k : Nat)) w
    ⟨0, [], .mk ⟨rfl, Nat.zero_le _, HT2.out.1, HU.out.1, HT2.out.2, (fun x hx => by cases hx), List.Pairwise.nil, (fun x hx => by cases hx), Nat.le_refl _⟩, ttt, ttt, ttt, ttt, ttt, ttt⟩ ?_ ?_
  · rintro kk ts m2 ⟨k, L, H, t1, t5, t6, t8, t10, t11⟩
    by_cases hk : k < w
    · have lt : (k : Int) < (w : Int) := by omega
      have hkA : k < A.length := by have := HN.out; omega
      obtain ⟨⟨ki, id, raw, ⟨j0, j1, j2, j3⟩, tag, fa, at1⟩, hx⟩ : ∃ x, A.getD k default = x := ⟨_, rfl⟩
      have g1 := act_lst A k hkA _ hx
      have ltn : (k : Int) < (n : Int) := by omega
      have wk : IntKind.i64.wrap ((k : Int) + 1) = ((k + 1 : Nat) : Int) := by rw [wrap_i64 (by omega) (by omega)]; omega
      clear hx hkA
      simp only [encAc] at g1
      repeat' (first | exact tf0 ‹_› | exact tf1 ‹_› | exact False.elim ‹_› | (with_reducible refine Al.intro ?_; intro pb hpb; (try simp only [hupd_none'] at hpb); (repeat rcases hpb with ⟨⟨hpx, hpy⟩, hpb⟩)) | with_reducible refine need ?_ | ((with_reducible first | refine frk0 ?_ ?_ | refine frk1 ?_ ?_ | refine frk2 ?_ ?_ | refine frk3 ?_ ?_ | refine frk4 ?_ ?_ | refine frk5 ?_ ?_ | refine frk6 ?_ ?_ | refine frk7 ?_ ?_ | refine frk8 ?_ ?_ | refine frk9 ?_ ?_) <;> intro h <;> try (exfalso; omega)) | with_reducible refine quiet_and ?_ ?_ | with_reducible refine awp_drawnA mixed (by decide +kernel) ?_ | ((fail_if_success with_reducible refine stp ?_); simp -implicitDefEqProofs only [go_sem, Nat.reduceEqDiff, Nat.reduceAdd, Nat.reduceLT, Nat.reduceMul, Nat.reduceSub, Nat.reduceLeDiff, ↓reduceIte, reduceCtorEq, ↓String.reduceEq, String.reduceNe, Int.reduceToNat, Int.reduceLT, Int.reduceLE, Int.reduceGT, Int.reduceGE, Int.reduceEq, Int.reduceNe, Int.reduceBEq, Int.reduceBNe, Int.reduceAdd, Int.reduceSub, Int.reduceMul, Int.reduceNeg,  *]))
      obtain ⟨p12, ep12⟩ : ∃ p, p = pb := ⟨_, rfl⟩
      subst ep12
      have n12 : ¬ T.own S p12 := fun h => H.out.2.2.1.owned h hpb
      have u12 : ¬ U.own S p12 := fun h => H.out.2.2.2.1.owned h hpb
      obtain ⟨M3, hM3, k12, krt, kru, ks⟩ : ∃ M3, M3 = hupd m2 p12 (.cells [.int .i64 ki, .int .i64 id, .bool raw, .int .i64 j0, .int .i64 j1, .int .i64 j2, .int .i64 j3, .int .i64 tag, .int .i64 fa, .int .i64 at1] 10) ∧ M3 p12 = some (.cells [.int .i64 ki, .int .i64 id, .bool raw, .int .i64 j0, .int .i64 j1, .int .i64 j2, .int .i64 j3, .int .i64 tag, .int .i64 fa, .int .i64 at1] 10) ∧ Rep T S L M3 ∧ Rep U S L M3 ∧ Sub m1 M3 :=
        ⟨_, rfl, by rw [hupd_at, if_pos rfl], H.out.2.2.1.fresh hpb, H.out.2.2.2.1.fresh hpb, H.out.2.2.2.2.1.fresh (H.out.2.2.2.2.1.gone hpb)⟩
      rw [← hM3]
      have HA := Hid.mk (And.intro krt (And.intro kru (And.intro ks (And.intro n12 (And.intro u12 H.out.2.2.2.2.2)))))
      have hkk : Hid (kk = w - k) := .mk H.out.1
      clear hM3 krt kru ks n12 u12 hpb H
      obtain ⟨⟨q0, q1, q2, q3⟩, hq⟩ : ∃ q, jobA S (ki, id, raw, (j0, j1, j2, j3), tag, fa, at1) = q := ⟨_, rfl⟩
      have HJ : Hid (∀ m3, Sub m1 m3 → CallWP Tryd.prog G 9 [v, .agg [.int .i64 ki, .int .i64 id, .bool raw, .int .i64 j0, .int .i64 j1, .int .i64 j2, .int .i64 j3, .int .i64 tag, .int .i64 fa, .int .i64 at1]] m3 fun w m' => w = encJ (q0, q1, q2, q3) ∧ m' = m3) :=
        .mk (fun m3 h3 => by have := job_spec G S (by have := HS.out.2.2.1; omega) (ki, id, raw, (j0, j1, j2, j3), tag, fa, at1) v m3 ((RdS.into (.inl HS.out.1) h3)); rwa [hq] at this)
      clear hq
      refine awp_drawnE [(0, .q), (1, .q), (2, .q), (3, .q), (6, .r [5]), (7, .r [5]), (8, .r [5]), (9, .r [5]), (4, .k), (5, .e), (10, .k), (11, .e), (12, .q)] (fun k => match k with | 4 => encJ (q0, q1, q2, q3) | 10 => encJ (q0, q1, q2, q3) | _ => .undef) (fun c => m1 c ≠ none) (fun u y => u = 5 ∧ y = p12) mixed (by decide +kernel) ?_
      repeat' (first | exact tf0 ‹_› | exact tf1 ‹_› | exact False.elim ‹_› | (with_reducible refine Al.intro ?_; intro pb hpb; (try simp only [hupd_none'] at hpb); (repeat rcases hpb with ⟨⟨hpx, hpy⟩, hpb⟩)) | with_reducible refine need ?_ | ((with_reducible first | refine frk0 ?_ ?_ | refine frk1 ?_ ?_ | refine frk2 ?_ ?_ | refine frk3 ?_ ?_ | refine frk4 ?_ ?_ | refine frk5 ?_ ?_ | refine frk6 ?_ ?_ | refine frk7 ?_ ?_ | refine frk8 ?_ ?_ | refine frk9 ?_ ?_) <;> intro h <;> try (exfalso; omega)) | with_reducible refine quiet_and ?_ ?_ | with_reducible refine awp_drawnA mixed (by decide +kernel) ?_ | ((fail_if_success with_reducible refine stp ?_); simp -implicitDefEqProofs only [go_sem, Nat.reduceEqDiff, Nat.reduceAdd, Nat.reduceLT, Nat.reduceMul, Nat.reduceSub, Nat.reduceLeDiff, ↓reduceIte, reduceCtorEq, ↓String.reduceEq, String.reduceNe, Int.reduceToNat, Int.reduceLT, Int.reduceLE, Int.reduceGT, Int.reduceGE, Int.reduceEq, Int.reduceNe, Int.reduceBEq, Int.reduceBNe, Int.reduceAdd, Int.reduceSub, Int.reduceMul, Int.reduceNeg,  encJ, encJc, true_and, false_and, *]))
      · exact fun m3 hst => HJ.out m3 (stab_sub2 HA.out.2.2.1 hst)
      refine take_spec G HL.out.1 T S L (by have := HS.out.2.2.1; omega) (by have := HA.out.2.2.2.2.2.2.2.2; omega) (k : Nat) (q0, q1, q2, q3) M3 HA.out.1 _ (fun M4 hR hE => ?_)
      have k12' := hE.at k12 HA.out.2.2.2.1
      have hU := HA.out.2.1.els hE HD.out.2.2.1 HD.out.2.2.2
      have hsub := hE.sub HA.out.2.2.1 HT.out.2.2.1
      have HB := Hid.mk (And.intro hR (And.intro hU hsub))
      refine Need.intro ⟨fun c hc => hE c (fun h0 => hc (HA.out.2.2.1.gone h0)) (fun ho => hc (HT.out.2.2.1 c ho)), fun y hy => by rw [hy, k12', k12]⟩ ?_
      clear hR hE hU hsub
      repeat' (first | exact tf0 ‹_› | exact tf1 ‹_› | exact False.elim ‹_› | (with_reducible refine Al.intro ?_; intro pb hpb; (try simp only [hupd_none'] at hpb); (repeat rcases hpb with ⟨⟨hpx, hpy⟩, hpb⟩)) | with_reducible refine need ?_ | ((with_reducible first | refine frk0 ?_ ?_ | refine frk1 ?_ ?_ | refine frk2 ?_ ?_ | refine frk3 ?_ ?_ | refine frk4 ?_ ?_ | refine frk5 ?_ ?_ | refine frk6 ?_ ?_ | refine frk7 ?_ ?_ | refine frk8 ?_ ?_ | refine frk9 ?_ ?_) <;> intro h <;> try (exfalso; omega)) | with_reducible refine quiet_and ?_ ?_ | with_reducible refine awp_drawnA mixed (by decide +kernel) ?_ | ((fail_if_success with_reducible refine stp ?_); simp -implicitDefEqProofs only [go_sem, Nat.reduceEqDiff, Nat.reduceAdd, Nat.reduceLT, Nat.reduceMul, Nat.reduceSub, Nat.reduceLeDiff, ↓reduceIte, reduceCtorEq, ↓String.reduceEq, String.reduceNe, Int.reduceToNat, Int.reduceLT, Int.reduceLE, Int.reduceGT, Int.reduceGE, Int.reduceEq, Int.reduceNe, Int.reduceBEq, Int.reduceBNe, Int.reduceAdd, Int.reduceSub, Int.reduceMul, Int.reduceNeg,  encJ, encJc, true_and, false_and, *]))
      · exact fun m3 hst => HJ.out m3 (stab_sub2 HA.out.2.2.1 hst)
      refine take_spec G HL.out.1 U S L (by have := HS.out.2.2.1; omega) (by have := HA.out.2.2.2.2.2.2.2.2; omega) (k : Nat) (q0, q1, q2, q3) M4 HB.out.2.1 _ (fun M5 hR hE => ?_)
      have hT := HB.out.1.els hE HD.out.1 HD.out.2.1
      have hsub := hE.sub HB.out.2.2 HU.out.2.2.1
      refine Need.intro (fun c hc => hE c (fun h0 => hc (HB.out.2.2.gone h0)) (fun ho => hc (HU.out.2.2.1 c ho))) ?_
      have hpr := take_pair (C := S) HA.out.2.2.2.2.2.2.1 HA.out.2.2.2.2.2.2.2.1 (q0, q1, q2, q3)
      have hgd := takeF_good (C := S) (L := L) (k : Nat) (q0, q1, q2, q3) HA.out.2.2.2.2.2.1
      have hle : (takeF S L (k : Nat) (q0, q1, q2, q3)).2.length ≤ k + 1 := by have := takeF_len S L (k : Nat) (q0, q1, q2, q3); have := HA.out.2.2.2.2.2.2.2.2; omega
      obtain ⟨⟨er, L2⟩, hy⟩ : ∃ y, takeF S L (k : Nat) (q0, q1, q2, q3) = y := ⟨_, rfl⟩
      rw [hy] at hR hT hpr hgd hle
      rw [hy]
      have HC := Hid.mk (And.intro hT (And.intro hR (And.intro hsub (And.intro hgd (And.intro hpr.1 (And.intro hpr.2 hle))))))
      clear hy HJ hE hT hR hsub hgd hpr hle
      repeat' (first | exact tf0 ‹_› | exact tf1 ‹_› | exact False.elim ‹_› | (with_reducible refine Al.intro ?_; intro pb hpb; (try simp only [hupd_none'] at hpb); (repeat rcases hpb with ⟨⟨hpx, hpy⟩, hpb⟩)) | with_reducible refine need ?_ | ((with_reducible first | refine frk0 ?_ ?_ | refine frk1 ?_ ?_ | refine frk2 ?_ ?_ | refine frk3 ?_ ?_ | refine frk4 ?_ ?_ | refine frk5 ?_ ?_ | refine frk6 ?_ ?_ | refine frk7 ?_ ?_ | refine frk8 ?_ ?_ | refine frk9 ?_ ?_) <;> intro h <;> try (exfalso; omega)) | with_reducible refine quiet_and ?_ ?_ | with_reducible refine awp_drawnA mixed (by decide +kernel) ?_ | ((fail_if_success with_reducible refine stp ?_); simp -implicitDefEqProofs only [go_sem, Nat.reduceEqDiff, Nat.reduceAdd, Nat.reduceLT, Nat.reduceMul, Nat.reduceSub, Nat.reduceLeDiff, ↓reduceIte, reduceCtorEq, ↓String.reduceEq, String.reduceNe, Int.reduceToNat, Int.reduceLT, Int.reduceLE, Int.reduceGT, Int.reduceGE, Int.reduceEq, Int.reduceNe, Int.reduceBEq, Int.reduceBNe, Int.reduceAdd, Int.reduceSub, Int.reduceMul, Int.reduceNeg,  *]))
      exact Again.intro ⟨w - (k + 1), by have := hkk.out; omega, _, Sub.refl _, k + 1, L2, .mk ⟨rfl, by omega, HC.out⟩, (by first | (simp only [upd, put, Nat.reduceEqDiff, ↓reduceIte, t1]; done) | (simp [upd, put, t1]; done) | rfl | (simp [upd, put, t1]; rfl)), (by first | (simp only [upd, put, Nat.reduceEqDiff, ↓reduceIte, t5]; done) | (simp [upd, put, t5]; done) | rfl | (simp [upd, put, t5]; rfl)), (by first | (simp only [upd, put, Nat.reduceEqDiff, ↓reduceIte, t6]; done) | (simp [upd, put, t6]; done) | rfl | (simp [upd, put, t6]; rfl)), (by first | (simp only [upd, put, Nat.reduceEqDiff, ↓reduceIte, t8]; done) | (simp [upd, put, t8]; done) | rfl | (simp [upd, put, t8]; rfl)), (by first | (simp only [upd, put, Nat.reduceEqDiff, ↓reduceIte, t10]; done) | (simp [upd, put, t10]; done) | rfl | (simp [upd, put, t10]; rfl)), ttt⟩
    · have lt : ¬ (k : Int) < (w : Int) := by omega
      repeat' (first | exact tf0 ‹_› | exact tf1 ‹_› | exact False.elim ‹_› | (with_reducible refine Al.intro ?_; intro pb hpb; (try simp only [hupd_none'] at hpb); (repeat rcases hpb with ⟨⟨hpx, hpy⟩, hpb⟩)) | with_reducible refine need ?_ | ((with_reducible first | refine frk0 ?_ ?_ | refine frk1 ?_ ?_ | refine frk2 ?_ ?_ | refine frk3 ?_ ?_ | refine frk4 ?_ ?_ | refine frk5 ?_ ?_ | refine frk6 ?_ ?_ | refine frk7 ?_ ?_ | refine frk8 ?_ ?_ | refine frk9 ?_ ?_) <;> intro h <;> try (exfalso; omega)) | with_reducible refine quiet_and ?_ ?_ | with_reducible refine awp_drawnA mixed (by decide +kernel) ?_ | ((fail_if_success with_reducible refine stp ?_); simp -implicitDefEqProofs only [go_sem, Nat.reduceEqDiff, Nat.reduceAdd, Nat.reduceLT, Nat.reduceMul, Nat.reduceSub, Nat.reduceLeDiff, ↓reduceIte, reduceCtorEq, ↓String.reduceEq, String.reduceNe, Int.reduceToNat, Int.reduceLT, Int.reduceLE, Int.reduceGT, Int.reduceGE, Int.reduceEq, Int.reduceNe, Int.reduceBEq, Int.reduceBNe, Int.reduceAdd, Int.reduceSub, Int.reduceMul, Int.reduceNeg,  *]))
      exact Again.intro ⟨L, .mk ⟨H.out.2.2.1, H.out.2.2.2.1, H.out.2.2.2.2.1, H.out.2.2.2.2.2.1, H.out.2.2.2.2.2.2.1, by have := H.out; omega⟩, (by first | (simp only [upd, put, Nat.reduceEqDiff, ↓reduceIte, t1]; done) | (simp [upd, put, t1]; done) | rfl | (simp [upd, put, t1]; rfl)), (by first | (simp only [upd, put, Nat.reduceEqDiff, ↓reduceIte, t5]; done) | (simp [upd, put, t5]; done) | rfl | (simp [upd, put, t5]; rfl)), (by first | (simp only [upd, put, Nat.reduceEqDiff, ↓reduceIte, t6]; done) | (simp [upd, put, t6]; done) | rfl | (simp [upd, put, t6]; rfl)), (by first | (simp only [upd, put, Nat.reduceEqDiff, ↓reduceIte, t8]; done) | (simp [upd, put, t8]; done) | rfl | (simp [upd, put, t8]; rfl)), (by first | (simp only [upd, put, Nat.reduceEqDiff, ↓reduceIte, t10]; done) | (simp [upd, put, t10]; done) | rfl | (simp [upd, put, t10]; rfl))⟩
  · rintro ts m2 ⟨L, H, t1, t5, t6, t8, t10⟩
    obtain ⟨f, hf⟩ : ∃ f : Int → Int × Int, ∀ t : Nat, f t = ((A.getD t default).2.2.2.2.2.1, (A.getD t default).2.2.2.2.2.2) := ⟨fun t => ((A.getD t.toNat default).2.2.2.2.2.1, (A.getD t.toNat default).2.2.2.2.2.2), fun t => by simp⟩
    have HF := Hid.mk hf
    clear hf
    have H0 : Hid (Rep T S (L.map (updS f 0 ((0 : Nat) : Int))) m2 ∧ Rep U S (L.map (updS f ((w : Int) - ((0 : Nat) : Int)) w)) m2 ∧ Sub m1 m2) := .mk ⟨by rw [show ((0 : Nat) : Int) = 0 from rfl, updS_none]; exact H.out.1, by rw [show (w : Int) - ((0 : Nat) : Int) = w by omega, updS_none]; exact H.out.2.1, H.out.2.2.1⟩
    have HG := Hid.mk H.out.2.2.2
    clear H
    repeat' (first | exact tf0 ‹_› | exact tf1 ‹_› | exact False.elim ‹_› | (with_reducible refine Al.intro ?_; intro pb hpb; (try simp only [hupd_none'] at hpb); (repeat rcases hpb with ⟨⟨hpx, hpy⟩, hpb⟩)) | with_reducible refine need ?_ | ((with_reducible first | refine frk0 ?_ ?_ | refine frk1 ?_ ?_ | refine frk2 ?_ ?_ | refine frk3 ?_ ?_ | refine frk4 ?_ ?_ | refine frk5 ?_ ?_ | refine frk6 ?_ ?_ | refine frk7 ?_ ?_ | refine frk8 ?_ ?_ | refine frk9 ?_ ?_) <;> intro h <;> try (exfalso; omega)) | with_reducible refine quiet_and ?_ ?_ | with_reducible refine awp_drawnA mixed (by decide +kernel) ?_ | ((fail_if_success with_reducible refine stp ?_); simp -implicitDefEqProofs only [go_sem, Nat.reduceEqDiff, Nat.reduceAdd, Nat.reduceLT, Nat.reduceMul, Nat.reduceSub, Nat.reduceLeDiff, ↓reduceIte, reduceCtorEq, ↓String.reduceEq, String.reduceNe, Int.reduceToNat, Int.reduceLT, Int.reduceLE, Int.reduceGT, Int.reduceGE, Int.reduceEq, Int.reduceNe, Int.reduceBEq, Int.reduceBNe, Int.reduceAdd, Int.reduceSub, Int.reduceMul, Int.reduceNeg,  *]))
    refine awp_loopP 2 (fun ts m' => Hid (Rep T S (L.map (updS f 0 w)) m' ∧ Rep U S (L.map (updS f 0 w)) m' ∧ Sub m1 m') ∧ ts 5 = v ∧ ts 6 = .ptr T.tb 0 ∧ ts 8 = .ptr U.tb 0)
      (fun kk ts m' => ∃ (k : Nat), Hid (kk = w - k ∧ k ≤ w ∧ Rep T S (L.map (updS f 0 (k : Int))) m' ∧ Rep U S (L.map (updS f ((w : Int) - (k : Int)) w)) m' ∧ Sub m1 m') ∧ ts 1 = .list 10 (A.map encA) ∧ ts 5 = v ∧ ts 6 = .ptr T.tb 0 ∧ ts 8 = .ptr U.tb 0 ∧ ts 10 = .int .i64 (w : Nat) ∧ ts 13 = .int .i64 (k : Nat)) w
      ⟨0, .mk ⟨rfl, Nat.zero_le _, H0.out⟩, (by first | (simp only [upd, put, Nat.reduceEqDiff, ↓reduceIte, t1]; done) | (simp [upd, put, t1]; done) | rfl | (simp [upd, put, t1]; rfl)), (by first | (simp only [upd, put, Nat.reduceEqDiff, ↓reduceIte, t5]; done) | (simp [upd, put, t5]; done) | rfl | (simp [upd, put, t5]; rfl)), (by first | (simp only [upd, put, Nat.reduceEqDiff, ↓reduceIte, t6]; done) | (simp [upd, put, t6]; done) | rfl | (simp [upd, put, t6]; rfl)), (by first | (simp only [upd, put, Nat.reduceEqDiff, ↓reduceIte, t8]; done) | (simp [upd, put, t8]; done) | rfl | (simp [upd, put, t8]; rfl)), (by first | (simp only [upd, put, Nat.reduceEqDiff, ↓reduceIte, t10]; done) | (simp [upd, put, t10]; done) | rfl | (simp [upd, put, t10]; rfl)), ttt⟩ ?_ ?_
    · rintro kk ts m3 ⟨k, H, t1, t5, t6, t8, t10, t13⟩
      by_cases hk : k < w
      · have lt : (k : Int) < (w : Int) := by omega
        obtain ⟨q, hq⟩ : ∃ q : Nat, (q : Int) = (w : Int) - 1 := ⟨w - 1, by omega⟩
        obtain ⟨e, he⟩ : ∃ e : Nat, (e : Int) = (q : Int) - (k : Int) := ⟨q - k, by omega⟩
        have wq : IntKind.i64.wrap ((w : Int) - 1) = (q : Int) := by rw [← hq]; exact wrap_i64 (by omega) (by omega)
        have we : IntKind.i64.wrap ((q : Int) - (k : Int)) = (e : Int) := by rw [← he]; exact wrap_i64 (by omega) (by omega)
        have wk : IntKind.i64.wrap ((k : Int) + 1) = ((k + 1 : Nat) : Int) := by rw [wrap_i64 (by omega) (by omega)]; omega
        have lk : (k : Int) < (n : Int) := by omega
        have le : (e : Int) < (n : Int) := by omega
        have hkA : k < A.length := by have := HN.out; omega
        have heA : e < A.length := by have := HN.out; omega
        obtain ⟨⟨ki, id, raw, ⟨j0, j1, j2, j3⟩, tag, fa, at1⟩, hx⟩ : ∃ x, A.getD k default = x := ⟨_, rfl⟩
        have g1 := act_lst A k hkA _ hx
        obtain ⟨⟨ki2, id2, raw2, ⟨i0, i1, i2, i3⟩, tag2, fa2, at2⟩, hx2⟩ : ∃ x, A.getD e default = x := ⟨_, rfl⟩
        have g2 := act_lst A e heA _ hx2
        have f1 := HF.out k
        have f2 := HF.out e
        rw [hx] at f1
        rw [hx2] at f2
        have HV := Hid.mk (And.intro f1 (And.intro f2 (And.intro hq he)))
        clear hx hx2 hkA heA f1 f2 hq he
        simp only [encAc] at g1 g2
        repeat' (first | exact tf0 ‹_› | exact tf1 ‹_› | exact False.elim ‹_› | (with_reducible refine Al.intro ?_; intro pb hpb; (try simp only [hupd_none'] at hpb); (repeat rcases hpb with ⟨⟨hpx, hpy⟩, hpb⟩)) | with_reducible refine need ?_ | ((with_reducible first | refine frk0 ?_ ?_ | refine frk1 ?_ ?_ | refine frk2 ?_ ?_ | refine frk3 ?_ ?_ | refine frk4 ?_ ?_ | refine frk5 ?_ ?_ | refine frk6 ?_ ?_ | refine frk7 ?_ ?_ | refine frk8 ?_ ?_ | refine frk9 ?_ ?_) <;> intro h <;> try (exfalso; omega)) | with_reducible refine quiet_and ?_ ?_ | with_reducible refine awp_drawnA mixed (by decide +kernel) ?_ | ((fail_if_success with_reducible refine stp ?_); simp -implicitDefEqProofs only [go_sem, Nat.reduceEqDiff, Nat.reduceAdd, Nat.reduceLT, Nat.reduceMul, Nat.reduceSub, Nat.reduceLeDiff, ↓reduceIte, reduceCtorEq, ↓String.reduceEq, String.reduceNe, Int.reduceToNat, Int.reduceLT, Int.reduceLE, Int.reduceGT, Int.reduceGE, Int.reduceEq, Int.reduceNe, Int.reduceBEq, Int.reduceBNe, Int.reduceAdd, Int.reduceSub, Int.reduceMul, Int.reduceNeg,  *]))
        refine awp_drawnE [(0, .q), (1, .q), (5, .r [15]), (6, .r [15]), (8, .r [15]), (13, .q), (14, .q), (2, .q), (7, .r [15]), (3, .q), (9, .r [15]), (4, .q), (10, .r [15]), (11, .r [15]), (12, .r [15]), (15, .e), (16, .e)] (fun _ => .undef) (fun _ => False) (fun _ _ => False) mixed (by decide +kernel) ?_
        repeat' (first | exact tf0 ‹_› | exact tf1 ‹_› | exact False.elim ‹_› | (with_reducible refine Al.intro ?_; intro pb hpb; (try simp only [hupd_none'] at hpb); (repeat rcases hpb with ⟨⟨hpx, hpy⟩, hpb⟩)) | with_reducible refine need ?_ | ((with_reducible first | refine frk0 ?_ ?_ | refine frk1 ?_ ?_ | refine frk2 ?_ ?_ | refine frk3 ?_ ?_ | refine frk4 ?_ ?_ | refine frk5 ?_ ?_ | refine frk6 ?_ ?_ | refine frk7 ?_ ?_ | refine frk8 ?_ ?_ | refine frk9 ?_ ?_) <;> intro h <;> try (exfalso; omega)) | with_reducible refine quiet_and ?_ ?_ | with_reducible refine awp_drawnA mixed (by decide +kernel) ?_ | ((fail_if_success with_reducible refine stp ?_); simp -implicitDefEqProofs only [go_sem, Nat.reduceEqDiff, Nat.reduceAdd, Nat.reduceLT, Nat.reduceMul, Nat.reduceSub, Nat.reduceLeDiff, ↓reduceIte, reduceCtorEq, ↓String.reduceEq, String.reduceNe, Int.reduceToNat, Int.reduceLT, Int.reduceLE, Int.reduceGT, Int.reduceGE, Int.reduceEq, Int.reduceNe, Int.reduceBEq, Int.reduceBNe, Int.reduceAdd, Int.reduceSub, Int.reduceMul, Int.reduceNeg,  *]))
        rename_i p14 e14
        obtain ⟨p15, ep15⟩ : ∃ p, p = pb := ⟨_, rfl⟩
        subst ep15
        obtain ⟨M4, hM4, k15, krt, kru, ks⟩ : ∃ M4, M4 = hupd (hupd m3 p14 (.cells [.int .i64 (k : Nat), .int .i64 fa, .int .i64 at1] 3)) p15 (.cells [.int .i64 (e : Nat), .int .i64 fa2, .int .i64 at2] 3) ∧ M4 p15 = some (.cells [.int .i64 (e : Nat), .int .i64 fa2, .int .i64 at2] 3) ∧ Rep T S (L.map (updS f 0 (k : Int))) M4 ∧ Rep U S (L.map (updS f ((w : Int) - (k : Int)) w)) M4 ∧ Sub m1 M4 :=
          ⟨_, rfl, by rw [hupd_at, if_pos rfl], (H.out.2.2.1.fresh e14).fresh (by rw [hupd_ne hpx]; exact hpb), (H.out.2.2.2.1.fresh e14).fresh (by rw [hupd_ne hpx]; exact hpb), (H.out.2.2.2.2.fresh (H.out.2.2.2.2.gone e14)).fresh (H.out.2.2.2.2.gone hpb)⟩
        rw [← hM4]
        have n15 : ¬ T.own S p15 := fun h => H.out.2.2.1.owned h hpb
        have HA := Hid.mk (And.intro krt (And.intro kru (And.intro ks H.out.1)))
        clear hM4 krt kru ks hpb e14 hpx hpy H
        refine fate_spec G T S (L.map (updS f 0 (k : Int))) (by rw [List.length_map]; have := HG.out.2.2; omega) (updS_good HG.out.1 f _ _) (k : Nat) fa at1 M4 HA.out.1 _ (fun M5 hR hE => ?_)
        have hfu := fate_up L HG.out.2.1 f (k : Int) (by omega)
        rw [HV.out.1] at hfu
        have hR2 : Rep T S (L.map (updS f 0 ((k : Int) + 1))) M5 := by rw [← hfu]; exact hR
        obtain ⟨c1, hc1⟩ : ∃ c, (fateF (L.map (updS f 0 (k : Int))) (k : Nat) fa at1).1 = c := ⟨_, rfl⟩
        rw [hc1]
        have k15' := hE.at k15 n15
        have HB := Hid.mk (And.intro hR2 (And.intro (HA.out.2.1.els hE HD.out.2.2.1 HD.out.2.2.2) (hE.sub HA.out.2.2.1 HT.out.2.2.1)))
        clear hR hfu hR2 hE hc1 k15 n15
        repeat' (first | exact tf0 ‹_› | exact tf1 ‹_› | exact False.elim ‹_› | (with_reducible refine Al.intro ?_; intro pb hpb; (try simp only [hupd_none'] at hpb); (repeat rcases hpb with ⟨⟨hpx, hpy⟩, hpb⟩)) | with_reducible refine need ?_ | ((with_reducible first | refine frk0 ?_ ?_ | refine frk1 ?_ ?_ | refine frk2 ?_ ?_ | refine frk3 ?_ ?_ | refine frk4 ?_ ?_ | refine frk5 ?_ ?_ | refine frk6 ?_ ?_ | refine frk7 ?_ ?_ | refine frk8 ?_ ?_ | refine frk9 ?_ ?_) <;> intro h <;> try (exfalso; omega)) | with_reducible refine quiet_and ?_ ?_ | with_reducible refine awp_drawnA mixed (by decide +kernel) ?_ | ((fail_if_success with_reducible refine stp ?_); simp -implicitDefEqProofs only [go_sem, Nat.reduceEqDiff, Nat.reduceAdd, Nat.reduceLT, Nat.reduceMul, Nat.reduceSub, Nat.reduceLeDiff, ↓reduceIte, reduceCtorEq, ↓String.reduceEq, String.reduceNe, Int.reduceToNat, Int.reduceLT, Int.reduceLE, Int.reduceGT, Int.reduceGE, Int.reduceEq, Int.reduceNe, Int.reduceBEq, Int.reduceBNe, Int.reduceAdd, Int.reduceSub, Int.reduceMul, Int.reduceNeg,  *]))
        refine fate_spec G U S (L.map (updS f ((w : Int) - (k : Int)) w)) (by rw [List.length_map]; have := HG.out.2.2; omega) (updS_good HG.out.1 f _ _) (e : Nat) fa2 at2 M5 HB.out.2.1 _ (fun M6 hR hE => ?_)
        have hfd := fate_down L HG.out.2.1 f ((w : Int) - (k : Int)) w (by omega)
        rw [show (w : Int) - (k : Int) - 1 = (e : Int) by have := HV.out; omega, HV.out.2.1] at hfd
        have hR2 : Rep U S (L.map (updS f (e : Int) w)) M6 := by rw [← hfd]; exact hR
        rw [show (e : Int) = (w : Int) - ((k + 1 : Nat) : Int) by have := HV.out; omega] at hR2
        obtain ⟨c2, hc2⟩ : ∃ c, (fateF (L.map (updS f ((w : Int) - (k : Int)) w)) (e : Nat) fa2 at2).1 = c := ⟨_, rfl⟩
        rw [hc2]
        have HZ := Hid.mk (And.intro (HB.out.1.els hE HD.out.1 HD.out.2.1) (And.intro hR2 (hE.sub HB.out.2.2 HU.out.2.2.1)))
        clear hR hfd hR2 hE hc2
        repeat' (first | exact tf0 ‹_› | exact tf1 ‹_› | exact False.elim ‹_› | (with_reducible refine Al.intro ?_; intro pb hpb; (try simp only [hupd_none'] at hpb); (repeat rcases hpb with ⟨⟨hpx, hpy⟩, hpb⟩)) | with_reducible refine need ?_ | ((with_reducible first | refine frk0 ?_ ?_ | refine frk1 ?_ ?_ | refine frk2 ?_ ?_ | refine frk3 ?_ ?_ | refine frk4 ?_ ?_ | refine frk5 ?_ ?_ | refine frk6 ?_ ?_ | refine frk7 ?_ ?_ | refine frk8 ?_ ?_ | refine frk9 ?_ ?_) <;> intro h <;> try (exfalso; omega)) | with_reducible refine quiet_and ?_ ?_ | with_reducible refine awp_drawnA mixed (by decide +kernel) ?_ | ((fail_if_success with_reducible refine stp ?_); simp -implicitDefEqProofs only [go_sem, Nat.reduceEqDiff, Nat.reduceAdd, Nat.reduceLT, Nat.reduceMul, Nat.reduceSub, Nat.reduceLeDiff, ↓reduceIte, reduceCtorEq, ↓String.reduceEq, String.reduceNe, Int.reduceToNat, Int.reduceLT, Int.reduceLE, Int.reduceGT, Int.reduceGE, Int.reduceEq, Int.reduceNe, Int.reduceBEq, Int.reduceBNe, Int.reduceAdd, Int.reduceSub, Int.reduceMul, Int.reduceNeg,  *]))
        exact Again.intro ⟨w - (k + 1), by have := HA.out.2.2.2; omega, _, Sub.refl _, k + 1, .mk ⟨rfl, by omega, HZ.out⟩, (by first | (simp only [upd, put, Nat.reduceEqDiff, ↓reduceIte, t1]; done) | (simp [upd, put, t1]; done) | rfl | (simp [upd, put, t1]; rfl)), (by first | (simp only [upd, put, Nat.reduceEqDiff, ↓reduceIte, t5]; done) | (simp [upd, put, t5]; done) | rfl | (simp [upd, put, t5]; rfl)), (by first | (simp only [upd, put, Nat.reduceEqDiff, ↓reduceIte, t6]; done) | (simp [upd, put, t6]; done) | rfl | (simp [upd, put, t6]; rfl)), (by first | (simp only [upd, put, Nat.reduceEqDiff, ↓reduceIte, t8]; done) | (simp [upd, put, t8]; done) | rfl | (simp [upd, put, t8]; rfl)), (by first | (simp only [upd, put, Nat.reduceEqDiff, ↓reduceIte, t10]; done) | (simp [upd, put, t10]; done) | rfl | (simp [upd, put, t10]; rfl)), ttt⟩
      · have lt : ¬ (k : Int) < (w : Int) := by omega
        have ek : k = w := by have := H.out.2.1; omega
        have hU : Rep U S (L.map (updS f 0 w)) m3 := by have h := H.out.2.2.2.1; rw [ek, show (w : Int) - (w : Int) = 0 by omega] at h; exact h
        have hT : Rep T S (L.map (updS f 0 w)) m3 := by have h := H.out.2.2.1; rw [ek] at h; exact h
        have HZ := Hid.mk (And.intro hT (And.intro hU H.out.2.2.2.2))
        clear hT hU ek H
        repeat' (first | exact tf0 ‹_› | exact tf1 ‹_› | exact False.elim ‹_› | (with_reducible refine Al.intro ?_; intro pb hpb; (try simp only [hupd_none'] at hpb); (repeat rcases hpb with ⟨⟨hpx, hpy⟩, hpb⟩)) | with_reducible refine need ?_ | ((with_reducible first | refine frk0 ?_ ?_ | refine frk1 ?_ ?_ | refine frk2 ?_ ?_ | refine frk3 ?_ ?_ | refine frk4 ?_ ?_ | refine frk5 ?_ ?_ | refine frk6 ?_ ?_ | refine frk7 ?_ ?_ | refine frk8 ?_ ?_ | refine frk9 ?_ ?_) <;> intro h <;> try (exfalso; omega)) | with_reducible refine quiet_and ?_ ?_ | with_reducible refine awp_drawnA mixed (by decide +kernel) ?_ | ((fail_if_success with_reducible refine stp ?_); simp -implicitDefEqProofs only [go_sem, Nat.reduceEqDiff, Nat.reduceAdd, Nat.reduceLT, Nat.reduceMul, Nat.reduceSub, Nat.reduceLeDiff, ↓reduceIte, reduceCtorEq, ↓String.reduceEq, String.reduceNe, Int.reduceToNat, Int.reduceLT, Int.reduceLE, Int.reduceGT, Int.reduceGE, Int.reduceEq, Int.reduceNe, Int.reduceBEq, Int.reduceBNe, Int.reduceAdd, Int.reduceSub, Int.reduceMul, Int.reduceNeg,  *]))
        exact Again.intro ⟨HZ, (by first | (simp only [upd, put, Nat.reduceEqDiff, ↓reduceIte, t5]; done) | (simp [upd, put, t5]; done) | rfl | (simp [upd, put, t5]; rfl)), (by first | (simp only [upd, put, Nat.reduceEqDiff, ↓reduceIte, t6]; done) | (simp [upd, put, t6]; done) | rfl | (simp [upd, put, t6]; rfl)), (by first | (simp only [upd, put, Nat.reduceEqDiff, ↓reduceIte, t8]; done) | (simp [upd, put, t8]; done) | rfl | (simp [upd, put, t8]; rfl))⟩
    · rintro ts m3 ⟨H, t5, t6, t8⟩
      obtain ⟨L2, hL2⟩ : ∃ L2, L.map (updS f 0 w) = L2 := ⟨_, rfl⟩
      rw [hL2] at H
      clear hL2 HG HF H0
      repeat' (first | exact tf0 ‹_› | exact tf1 ‹_› | exact False.elim ‹_› | (with_reducible refine Al.intro ?_; intro pb hpb; (try simp only [hupd_none'] at hpb); (repeat rcases hpb with ⟨⟨hpx, hpy⟩, hpb⟩)) | with_reducible refine need ?_ | ((with_reducible first | refine frk0 ?_ ?_ | refine frk1 ?_ ?_ | refine frk2 ?_ ?_ | refine frk3 ?_ ?_ | refine frk4 ?_ ?_ | refine frk5 ?_ ?_ | refine frk6 ?_ ?_ | refine frk7 ?_ ?_ | refine frk8 ?_ ?_ | refine frk9 ?_ ?_) <;> intro h <;> try (exfalso; omega)) | with_reducible refine quiet_and ?_ ?_ | with_reducible refine awp_drawnA mixed (by decide +kernel) ?_ | ((fail_if_success with_reducible refine stp ?_); simp -implicitDefEqProofs only [go_sem, Nat.reduceEqDiff, Nat.reduceAdd, Nat.reduceLT, Nat.reduceMul, Nat.reduceSub, Nat.reduceLeDiff, ↓reduceIte, reduceCtorEq, ↓String.reduceEq, String.reduceNe, Int.reduceToNat, Int.reduceLT, Int.reduceLE, Int.reduceGT, Int.reduceGE, Int.reduceEq, Int.reduceNe, Int.reduceBEq, Int.reduceBNe, Int.reduceAdd, Int.reduceSub, Int.reduceMul, Int.reduceNeg,  *]))
      refine awp_loopP 4 (fun ts m' => Hid (Rep T S L2 m' ∧ Rep U S L2 m' ∧ Sub m1 m') ∧ ts 6 = .ptr T.tb 0 ∧ ts 8 = .ptr U.tb 0)
        (fun kk ts m' => ∃ j : Nat, Hid (kk = LL - j ∧ j ≤ LL ∧ Rep T S L2 m' ∧ Rep U S L2 m' ∧ Sub m1 m') ∧ ts 5 = v ∧ ts 6 = .ptr T.tb 0 ∧ ts 8 = .ptr U.tb 0 ∧ ts 16 = .int .i64 (j : Nat)) LL
        ⟨0, .mk ⟨rfl, Nat.zero_le _, H.out⟩, (by first | (simp only [upd, put, Nat.reduceEqDiff, ↓reduceIte, t5]; done) | (simp [upd, put, t5]; done) | rfl | (simp [upd, put, t5]; rfl)), (by first | (simp only [upd, put, Nat.reduceEqDiff, ↓reduceIte, t6]; done) | (simp [upd, put, t6]; done) | rfl | (simp [upd, put, t6]; rfl)), (by first | (simp only [upd, put, Nat.reduceEqDiff, ↓reduceIte, t8]; done) | (simp [upd, put, t8]; done) | rfl | (simp [upd, put, t8]; rfl)), ttt⟩ ?_ ?_
      · rintro kk ts m5 ⟨j, H5, t5, t6, t8, t16⟩
        obtain ⟨b, pre, post, N, cap, hw⟩ : ∃ b pre post N cap, (v = .nils ∧ LL = 0) ∨ (v = .slice b (pre : List AVal).length LL cap ∧ m1 b = some (.cells (pre ++ (S.flatMap encSc ++ post)) N)) := by
          rcases HS.out.1 with ⟨h1, h2⟩ | ⟨b, blk, hb, pre, post, N, cap, h1, h2, _⟩
          · exact ⟨0, [], [], 0, 0, .inl ⟨h1, by rw [HLL.out, h2]; rfl⟩⟩
          · exact ⟨b, pre, post, N, cap, .inr ⟨by rw [HLL.out]; exact h1, by rw [hb, h2]⟩⟩
        by_cases hj : j < LL
        · have ltj : (j : Int) < (LL : Int) := by omega
          rcases hw with ⟨hv, hz⟩ | ⟨hv, hb⟩
          · omega
          subst hv
          have hjS : j < S.length := by have := HLL.out; omega
          obtain ⟨x, hx⟩ : ∃ x, S.getD j default = x := ⟨_, rfl⟩
          have hxm := getD_mem S j hjS
          rw [hx] at hxm
          have a0 := sm_at S pre post j hjS x hx
          have a1 := sm_cell S pre post j hjS x hx 0 (by decide)
          rw [show (encSc x).getD 0 .undef = .int .i64 x.1 from rfl, Nat.add_zero] at a1
          have l1 := sm_len S pre post j hjS
          have hb2 := H5.out.2.2.2.2 _ _ hb
          have wj : IntKind.i64.wrap ((j : Int) + 1) = ((j + 1 : Nat) : Int) := by rw [wrap_i64 (by omega) (by omega)]; omega
          obtain ⟨r3, hr3⟩ : ∃ r, rowOf (pId x.1) L2 = r := ⟨_, rfl⟩
          obtain ⟨vk, ⟨h0, h1, h2, h3, h4, h5⟩, vo, ve, vs⟩ := r3
          have HXM := Hid.mk (And.intro hxm hr3)
          have frb : ∀ c, m5 c = none → (b = c) = False := fun c h => by rw [eq_iff_iff, iff_false]; exact seenB hb2 h
          clear hx hjS hxm hr3 hb
          repeat' (first | exact tf0 ‹_› | exact tf1 ‹_› | exact False.elim ‹_› | (with_reducible refine Al.intro ?_; intro pb hpb; (try simp only [hupd_none'] at hpb); (repeat rcases hpb with ⟨⟨hpx, hpy⟩, hpb⟩)) | with_reducible refine need ?_ | ((with_reducible first | refine frk0 ?_ ?_ | refine frk1 ?_ ?_ | refine frk2 ?_ ?_ | refine frk3 ?_ ?_ | refine frk4 ?_ ?_ | refine frk5 ?_ ?_ | refine frk6 ?_ ?_ | refine frk7 ?_ ?_ | refine frk8 ?_ ?_ | refine frk9 ?_ ?_) <;> intro h <;> try (exfalso; omega)) | with_reducible refine quiet_and ?_ ?_ | with_reducible refine awp_drawnA mixed (by decide +kernel) ?_ | ((fail_if_success with_reducible refine stp ?_); simp -implicitDefEqProofs only [go_sem, Nat.reduceEqDiff, Nat.reduceAdd, Nat.reduceLT, Nat.reduceMul, Nat.reduceSub, Nat.reduceLeDiff, ↓reduceIte, reduceCtorEq, ↓String.reduceEq, String.reduceNe, Int.reduceToNat, Int.reduceLT, Int.reduceLE, Int.reduceGT, Int.reduceGE, Int.reduceEq, Int.reduceNe, Int.reduceBEq, Int.reduceBNe, Int.reduceAdd, Int.reduceSub, Int.reduceMul, Int.reduceNeg,  *]))
          refine CallWP.to (trow_spec G T S L2 x.1 ⟨x, HXM.out.1, rfl⟩ m5 H5.out.2.2.1) ?_
          rw [HXM.out.2]
          repeat' (first | exact tf0 ‹_› | exact tf1 ‹_› | exact False.elim ‹_› | (with_reducible refine Al.intro ?_; intro pb hpb; (try simp only [hupd_none'] at hpb); (repeat rcases hpb with ⟨⟨hpx, hpy⟩, hpb⟩)) | with_reducible refine need ?_ | ((with_reducible first | refine frk0 ?_ ?_ | refine frk1 ?_ ?_ | refine frk2 ?_ ?_ | refine frk3 ?_ ?_ | refine frk4 ?_ ?_ | refine frk5 ?_ ?_ | refine frk6 ?_ ?_ | refine frk7 ?_ ?_ | refine frk8 ?_ ?_ | refine frk9 ?_ ?_) <;> intro h <;> try (exfalso; omega)) | with_reducible refine quiet_and ?_ ?_ | with_reducible refine awp_drawnA mixed (by decide +kernel) ?_ | ((fail_if_success with_reducible refine stp ?_); simp -implicitDefEqProofs only [go_sem, Nat.reduceEqDiff, Nat.reduceAdd, Nat.reduceLT, Nat.reduceMul, Nat.reduceSub, Nat.reduceLeDiff, ↓reduceIte, reduceCtorEq, ↓String.reduceEq, String.reduceNe, Int.reduceToNat, Int.reduceLT, Int.reduceLE, Int.reduceGT, Int.reduceGE, Int.reduceEq, Int.reduceNe, Int.reduceBEq, Int.reduceBNe, Int.reduceAdd, Int.reduceSub, Int.reduceMul, Int.reduceNeg,  rowVal, *]))
          refine CallWP.to (trow_spec G U S L2 x.1 ⟨x, HXM.out.1, rfl⟩ _ (H5.out.2.2.2.1.fresh hpb)) ?_
          rw [HXM.out.2]
          repeat' (first | exact tf0 ‹_› | exact tf1 ‹_› | exact False.elim ‹_› | (with_reducible refine Al.intro ?_; intro pb hpb; (try simp only [hupd_none'] at hpb); (repeat rcases hpb with ⟨⟨hpx, hpy⟩, hpb⟩)) | with_reducible refine need ?_ | ((with_reducible first | refine frk0 ?_ ?_ | refine frk1 ?_ ?_ | refine frk2 ?_ ?_ | refine frk3 ?_ ?_ | refine frk4 ?_ ?_ | refine frk5 ?_ ?_ | refine frk6 ?_ ?_ | refine frk7 ?_ ?_ | refine frk8 ?_ ?_ | refine frk9 ?_ ?_) <;> intro h <;> try (exfalso; omega)) | with_reducible refine quiet_and ?_ ?_ | with_reducible refine awp_drawnA mixed (by decide +kernel) ?_ | ((fail_if_success with_reducible refine stp ?_); simp -implicitDefEqProofs only [go_sem, Nat.reduceEqDiff, Nat.reduceAdd, Nat.reduceLT, Nat.reduceMul, Nat.reduceSub, Nat.reduceLeDiff, ↓reduceIte, reduceCtorEq, ↓String.reduceEq, String.reduceNe, Int.reduceToNat, Int.reduceLT, Int.reduceLE, Int.reduceGT, Int.reduceGE, Int.reduceEq, Int.reduceNe, Int.reduceBEq, Int.reduceBNe, Int.reduceAdd, Int.reduceSub, Int.reduceMul, Int.reduceNeg,  rowVal, aeqEs, rcell, *]))
          exact Again.intro ⟨LL - (j + 1), by have := H5.out.1; omega, m5, (by (repeat refine Sub.fresh ?_ (by assumption)); exact Sub.refl _), j + 1, .mk ⟨rfl, by omega, H5.out.2.2⟩, (by first | (simp only [upd, put, Nat.reduceEqDiff, ↓reduceIte, t5]; done) | (simp [upd, put, t5]; done) | rfl | (simp [upd, put, t5]; rfl)), (by first | (simp only [upd, put, Nat.reduceEqDiff, ↓reduceIte, t6]; done) | (simp [upd, put, t6]; done) | rfl | (simp [upd, put, t6]; rfl)), (by first | (simp only [upd, put, Nat.reduceEqDiff, ↓reduceIte, t8]; done) | (simp [upd, put, t8]; done) | rfl | (simp [upd, put, t8]; rfl)), ttt⟩
        · have ltj : ¬ (j : Int) < (LL : Int) := by omega
          rcases hw with ⟨hv, hz⟩ | ⟨hv, hb⟩
          all_goals (
            subst hv
            try clear hb
            try (have hz0 := Hid.mk hz; clear hz)
            repeat' (first | exact tf0 ‹_› | exact tf1 ‹_› | exact False.elim ‹_› | (with_reducible refine Al.intro ?_; intro pb hpb; (try simp only [hupd_none'] at hpb); (repeat rcases hpb with ⟨⟨hpx, hpy⟩, hpb⟩)) | with_reducible refine need ?_ | ((with_reducible first | refine frk0 ?_ ?_ | refine frk1 ?_ ?_ | refine frk2 ?_ ?_ | refine frk3 ?_ ?_ | refine frk4 ?_ ?_ | refine frk5 ?_ ?_ | refine frk6 ?_ ?_ | refine frk7 ?_ ?_ | refine frk8 ?_ ?_ | refine frk9 ?_ ?_) <;> intro h <;> try (exfalso; omega)) | with_reducible refine quiet_and ?_ ?_ | with_reducible refine awp_drawnA mixed (by decide +kernel) ?_ | ((fail_if_success with_reducible refine stp ?_); simp -implicitDefEqProofs only [go_sem, Nat.reduceEqDiff, Nat.reduceAdd, Nat.reduceLT, Nat.reduceMul, Nat.reduceSub, Nat.reduceLeDiff, ↓reduceIte, reduceCtorEq, ↓String.reduceEq, String.reduceNe, Int.reduceToNat, Int.reduceLT, Int.reduceLE, Int.reduceGT, Int.reduceGE, Int.reduceEq, Int.reduceNe, Int.reduceBEq, Int.reduceBNe, Int.reduceAdd, Int.reduceSub, Int.reduceMul, Int.reduceNeg,  *]))
            exact Again.intro ⟨.mk H5.out.2.2, (by first | (simp only [upd, put, Nat.reduceEqDiff, ↓reduceIte, t6]; done) | (simp [upd, put, t6]; done) | rfl | (simp [upd, put, t6]; rfl)), (by first | (simp only [upd, put, Nat.reduceEqDiff, ↓reduceIte, t8]; done) | (simp [upd, put, t8]; done) | rfl | (simp [upd, put, t8]; rfl))⟩)
      · rintro ts m5 ⟨H5, t6, t8⟩
        obtain ⟨r3, hr3⟩ : ∃ r, rowOf pAll L2 = r := ⟨_, rfl⟩
        obtain ⟨vk, ⟨h0, h1, h2, h3, h4, h5⟩, vo, ve, vs⟩ := r3
        have HR := Hid.mk hr3
        clear hr3
        repeat' (first | exact tf0 ‹_› | exact tf1 ‹_› | exact False.elim ‹_› | (with_reducible refine Al.intro ?_; intro pb hpb; (try simp only [hupd_none'] at hpb); (repeat rcases hpb with ⟨⟨hpx, hpy⟩, hpb⟩)) | with_reducible refine need ?_ | ((with_reducible first | refine frk0 ?_ ?_ | refine frk1 ?_ ?_ | refine frk2 ?_ ?_ | refine frk3 ?_ ?_ | refine frk4 ?_ ?_ | refine frk5 ?_ ?_ | refine frk6 ?_ ?_ | refine frk7 ?_ ?_ | refine frk8 ?_ ?_ | refine frk9 ?_ ?_) <;> intro h <;> try (exfalso; omega)) | with_reducible refine quiet_and ?_ ?_ | with_reducible refine awp_drawnA mixed (by decide +kernel) ?_ | ((fail_if_success with_reducible refine stp ?_); simp -implicitDefEqProofs only [go_sem, Nat.reduceEqDiff, Nat.reduceAdd, Nat.reduceLT, Nat.reduceMul, Nat.reduceSub, Nat.reduceLeDiff, ↓reduceIte, reduceCtorEq, ↓String.reduceEq, String.reduceNe, Int.reduceToNat, Int.reduceLT, Int.reduceLE, Int.reduceGT, Int.reduceGE, Int.reduceEq, Int.reduceNe, Int.reduceBEq, Int.reduceBNe, Int.reduceAdd, Int.reduceSub, Int.reduceMul, Int.reduceNeg,  *]))
        refine CallWP.to (live34_spec G HL.out.1 _) ?_
        repeat' (first | exact tf0 ‹_› | exact tf1 ‹_› | exact False.elim ‹_› | (with_reducible refine Al.intro ?_; intro pb hpb; (try simp only [hupd_none'] at hpb); (repeat rcases hpb with ⟨⟨hpx, hpy⟩, hpb⟩)) | with_reducible refine need ?_ | ((with_reducible first | refine frk0 ?_ ?_ | refine frk1 ?_ ?_ | refine frk2 ?_ ?_ | refine frk3 ?_ ?_ | refine frk4 ?_ ?_ | refine frk5 ?_ ?_ | refine frk6 ?_ ?_ | refine frk7 ?_ ?_ | refine frk8 ?_ ?_ | refine frk9 ?_ ?_) <;> intro h <;> try (exfalso; omega)) | with_reducible refine quiet_and ?_ ?_ | with_reducible refine awp_drawnA mixed (by decide +kernel) ?_ | ((fail_if_success with_reducible refine stp ?_); simp -implicitDefEqProofs only [go_sem, Nat.reduceEqDiff, Nat.reduceAdd, Nat.reduceLT, Nat.reduceMul, Nat.reduceSub, Nat.reduceLeDiff, ↓reduceIte, reduceCtorEq, ↓String.reduceEq, String.reduceNe, Int.reduceToNat, Int.reduceLT, Int.reduceLE, Int.reduceGT, Int.reduceGE, Int.reduceEq, Int.reduceNe, Int.reduceBEq, Int.reduceBNe, Int.reduceAdd, Int.reduceSub, Int.reduceMul, Int.reduceNeg,  *]))
        refine CallWP.to (total_spec G T S L2 _ H5.out.1) ?_
        rw [HR.out]
        repeat' (first | exact tf0 ‹_› | exact tf1 ‹_› | exact False.elim ‹_› | (with_reducible refine Al.intro ?_; intro pb hpb; (try simp only [hupd_none'] at hpb); (repeat rcases hpb with ⟨⟨hpx, hpy⟩, hpb⟩)) | with_reducible refine need ?_ | ((with_reducible first | refine frk0 ?_ ?_ | refine frk1 ?_ ?_ | refine frk2 ?_ ?_ | refine frk3 ?_ ?_ | refine frk4 ?_ ?_ | refine frk5 ?_ ?_ | refine frk6 ?_ ?_ | refine frk7 ?_ ?_ | refine frk8 ?_ ?_ | refine frk9 ?_ ?_) <;> intro h <;> try (exfalso; omega)) | with_reducible refine quiet_and ?_ ?_ | with_reducible refine awp_drawnA mixed (by decide +kernel) ?_ | ((fail_if_success with_reducible refine stp ?_); simp -implicitDefEqProofs only [go_sem, Nat.reduceEqDiff, Nat.reduceAdd, Nat.reduceLT, Nat.reduceMul, Nat.reduceSub, Nat.reduceLeDiff, ↓reduceIte, reduceCtorEq, ↓String.reduceEq, String.reduceNe, Int.reduceToNat, Int.reduceLT, Int.reduceLE, Int.reduceGT, Int.reduceGE, Int.reduceEq, Int.reduceNe, Int.reduceBEq, Int.reduceBNe, Int.reduceAdd, Int.reduceSub, Int.reduceMul, Int.reduceNeg,  rowVal, *]))
        refine CallWP.to (total_spec G U S L2 _ H5.out.2.1) ?_
        rw [HR.out]
        repeat' (first | exact tf0 ‹_› | exact tf1 ‹_› | exact False.elim ‹_› | (with_reducible refine Al.intro ?_; intro pb hpb; (try simp only [hupd_none'] at hpb); (repeat rcases hpb with ⟨⟨hpx, hpy⟩, hpb⟩)) | with_reducible refine need ?_ | ((with_reducible first | refine frk0 ?_ ?_ | refine frk1 ?_ ?_ | refine frk2 ?_ ?_ | refine frk3 ?_ ?_ | refine frk4 ?_ ?_ | refine frk5 ?_ ?_ | refine frk6 ?_ ?_ | refine frk7 ?_ ?_ | refine frk8 ?_ ?_ | refine frk9 ?_ ?_) <;> intro h <;> try (exfalso; omega)) | with_reducible refine quiet_and ?_ ?_ | with_reducible refine awp_drawnA mixed (by decide +kernel) ?_ | ((fail_if_success with_reducible refine stp ?_); simp -implicitDefEqProofs only [go_sem, Nat.reduceEqDiff, Nat.reduceAdd, Nat.reduceLT, Nat.reduceMul, Nat.reduceSub, Nat.reduceLeDiff, ↓reduceIte, reduceCtorEq, ↓String.reduceEq, String.reduceNe, Int.reduceToNat, Int.reduceLT, Int.reduceLE, Int.reduceGT, Int.reduceGE, Int.reduceEq, Int.reduceNe, Int.reduceBEq, Int.reduceBNe, Int.reduceAdd, Int.reduceSub, Int.reduceMul, Int.reduceNeg,  rowVal, aeqEs, rcell, *]))
        exact ⟨m, subTrans HS.out.2.1 H5.out.2.2, rfl, rfl⟩
end Go.Proofs.YtdckcophbmnjjaaDoor
