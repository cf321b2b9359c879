/- Whatever came, and became of it: the program's table and the document's tell the same. -/
import Derived.Test.YtdckcophbmnjjaaGreatDoorW28
import Derived.Test.YtdckcophbmnjjaaGreatDoorW16
set_option linter.all false
namespace Go.Proofs.YtdckcophbmnjjaaGreatDoor
open Go Go.Proofs.YtdckcophbmnjjaaGreatDoor.Ab
open Go.Proofs (Tryz.prog)
set_option maxRecDepth 100000
theorem takeF_goodA {C : List Stm} {L : List Ntd} (tag : Int) (j : Jb) (h : GoodA L) : GoodA (takeF C L tag j).2 := by
  unfold takeF
  split
  · exact h
  · split
    · exact h
    · split
      · exact h
      · intro x hx
        rcases List.mem_append.1 hx with hx | hx
        · exact h x hx
        · rw [List.mem_singleton.1 hx]; exact ⟨Int.le_refl 0, by simp⟩
theorem fateF_goodA {L : List Ntd} (tag k at1 : Int) (h : GoodA L) : GoodA (fateF L tag k at1).2 := by
  unfold fateF
  split
  · exact h
  · split
    · exact h
    · split
      · exact h
      · split
        · exact h
        · rename_i hat
          intro x hx
          rcases List.mem_or_eq_of_mem_set hx with hx | rfl
          · exact h x hx
          · exact ⟨show 0 ≤ at1 by omega, show at1 ≤ 2251799813685248 by omega⟩
/-- Both tables lie apart, and are new. -/
structure Sep (T : Tab) (S : List Stm) (R : Rtb) (m1 : Heap) : Prop where
  d1 : ∀ c, T.own S c → ¬ R.own c
  d2 : ∀ c, T.own S c → bOf R.vs ≠ some c
  d3 : ∀ c, bOf T.v = some c → ¬ R.own c
  f1 : ∀ c, T.own S c → m1 c = none
  f2 : ∀ c, R.own c → m1 c = none
/-- The document's table stays when the program's turns. -/
theorem RRep.else' {T : Tab} {S : List Stm} {R : Rtb} {L : List Ntd} {m m' m1 : Heap} (h : RRep R S L m) (hs : Sep T S R m1) (he : Else T S m m') : RRep R S L m' :=
  h.keep (fun c hc => he c (h.owned hc) (fun ho => hs.d1 c ho hc)) (fun c hc => he c (slm_some h.str hc) (fun ho => hs.d2 c ho hc))
/-- The program's table stays when the document's turns. -/
theorem Rep.else' {T : Tab} {S : List Stm} {R : Rtb} {L : List Ntd} {m m' m1 : Heap} (h : Rep T S L m) (hs : Sep T S R m1) (he : ∀ c, m c ≠ none → ¬ R.own c → m' c = m c) : Rep T S L m' :=
  h.keep (fun c hc => he c (h.owned hc) (hs.d1 c hc)) (fun c hc => he c (slm_some h.str hc) (hs.d3 c hc))
theorem Sep.turn {T : Tab} {S : List Stm} {R : Rtb} {L : List Ntd} {m m1 : Heap} {vl : AVal} (hs : Sep T S R m1) (hT : Rep T S L m) (hsub : Sub m1 m) (hv : ∀ c, bOf vl = some c → bOf R.vl = some c ∨ m c = none) : Sep T S ⟨R.p, R.vs, vl⟩ m1 where
  d1 := fun c hc h => by
    rcases h with h | h
    · exact hs.d1 c hc (.inl h)
    · rcases hv c h with h | h
      · exact hs.d1 c hc (.inr h)
      · exact hT.owned hc h
  d2 := hs.d2
  d3 := fun c hc h => by
    rcases h with h | h
    · exact hs.d3 c hc (.inl h)
    · rcases hv c h with h | h
      · exact hs.d3 c hc (.inr h)
      · exact slm_some hT.str hc h
  f1 := hs.f1
  f2 := fun c h => by
    rcases h with h | h
    · exact hs.f2 c (.inl h)
    · rcases hv c h with h | h
      · exact hs.f2 c (.inr h)
      · exact hsub.gone h
set_option maxHeartbeats 8000000 in
theorem tallyPlays_spec (G : Nat → AVal) (hG : DivOK G) (C : List Stm) (hl : C.length < 9223372036854775808) (A : List Act) (hA : A.length < 9223372036854775808) (raw : Bool) (m : Heap) :
    CallWP Tryz.prog G 3 [.list 7 (C.map encS), .list 10 (A.map encA), .bool raw] m fun v m' => v = .bool true ∧ m' = m := by
  have HL := Hid.mk (And.intro hG (And.intro hl hA))
  obtain ⟨n, hn⟩ : ∃ n, n = A.length := ⟨_, rfl⟩
  have ll : (A.map encA).length = n := by rw [List.length_map]; exact hn.symm
  obtain ⟨nc, hnc⟩ : ∃ n, n = C.length := ⟨_, rfl⟩
  have lc : (C.map encS).length = nc := by rw [List.length_map]; exact hnc.symm
  have HN := Hid.mk (And.intro hn hnc)
  clear hG hl hA hn hnc
  refine callWP_body Tryz.func3 rfl (N := 97) rfl (rs := [.tmp 6]) rfl en_3 (of_decide_eq_true rfl) ?_
  repeat' (first | exact tf0 ‹_› | exact tf1 ‹_› | exact False.elim ‹_› | (with_reducible refine Al.intro ?_; intro pb hpb; (try simp only [hupd_none'] at hpb); (repeat rcases hpb with ⟨⟨hpx, hpy⟩, hpb⟩)) | with_reducible refine need ?_ | ((with_reducible first | apply frk0 | apply frk1 | apply frk2 | apply frk3 | apply frk4 | apply frk5 | apply frk6 | apply frk7 | apply frk8 | apply frk9) <;> intro h <;> try (exfalso; omega)) | with_reducible refine quiet_and ?_ ?_ | with_reducible refine awp_drawnA mixed (by decide +kernel) ?_ | ((fail_if_success with_reducible refine stp ?_); simp -implicitDefEqProofs only [go_sem, Nat.reduceEqDiff, Nat.reduceAdd, Nat.reduceLT, Nat.reduceMul, Nat.reduceSub, Nat.reduceLeDiff, ↓reduceIte, reduceCtorEq, ↓String.reduceEq, String.reduceNe, Int.reduceToNat, Int.reduceLT, Int.reduceLE, Int.reduceGT, Int.reduceGE, Int.reduceEq, Int.reduceNe, Int.reduceBEq, Int.reduceBNe, Int.reduceAdd, Int.reduceSub, Int.reduceMul, Int.reduceNeg,  *]))
  refine few_spec G C HL.out.2.1 m _ (fun v m1 hs hs1 hf => ?_)
  have hcase : ∃ (S : List Stm) (sv : AVal), Hid (RdS S sv m1 ∧ S.length ≤ 10) ∧ ((raw = true ∧ (nc : Int) < 10 ∧ sv = .list 7 (C.map encS)) ∨ (raw = true ∧ ¬ (nc : Int) < 10 ∧ sv = v) ∨ (raw = false ∧ sv = v)) := by
    by_cases h1 : raw = true
    · by_cases h2 : (nc : Int) < 10
      · exact ⟨C, _, .mk ⟨.inr rfl, by have := HN.out.2; omega⟩, .inl ⟨h1, h2, rfl⟩⟩
      · exact ⟨fewN C 6, v, .mk ⟨.inl hs, by rw [few_len]; omega⟩, .inr (.inl ⟨h1, h2, rfl⟩)⟩
    · exact ⟨fewN C 6, v, .mk ⟨.inl hs, by rw [few_len]; omega⟩, .inr (.inr ⟨by simpa using h1, rfl⟩)⟩
  obtain ⟨S, sv, HS, hc⟩ := hcase
  have H1 := Hid.mk hs1
  clear hs hs1 hf
  have hcl : Hid (∀ m', Sub m1 m' → S.length ≤ 64 → ∀ K : AVal → Heap → Prop, (∀ v' m2, SlM encSc 7 S v' m2 → Sub m' m2 → (∀ c, bOf v' = some c → m' c = none) → K v' m2) → CallWP Tryz.prog G 17 [sv] m' K) := .mk (fun m' hs _ K hK => cloneR_spec G S (by have := HS.out.2; omega) sv m' (HS.out.1.into hs) K hK)
  rcases hc with ⟨rfl, h2, hsv⟩ | ⟨rfl, h2, hsv⟩ | ⟨rfl, hsv⟩
  all_goals (
    have HSV := Hid.mk hsv
    clear hsv
    repeat' (first | exact tf0 ‹_› | exact tf1 ‹_› | exact False.elim ‹_› | (with_reducible refine Al.intro ?_; intro pb hpb; (try simp only [hupd_none'] at hpb); (repeat rcases hpb with ⟨⟨hpx, hpy⟩, hpb⟩)) | with_reducible refine need ?_ | ((with_reducible first | apply frk0 | apply frk1 | apply frk2 | apply frk3 | apply frk4 | apply frk5 | apply frk6 | apply frk7 | apply frk8 | apply frk9) <;> intro h <;> try (exfalso; omega)) | with_reducible refine quiet_and ?_ ?_ | with_reducible refine awp_drawnA mixed (by decide +kernel) ?_ | ((fail_if_success with_reducible refine stp ?_); simp -implicitDefEqProofs only [go_sem, Nat.reduceEqDiff, Nat.reduceAdd, Nat.reduceLT, Nat.reduceMul, Nat.reduceSub, Nat.reduceLeDiff, ↓reduceIte, reduceCtorEq, ↓String.reduceEq, String.reduceNe, Int.reduceToNat, Int.reduceLT, Int.reduceLE, Int.reduceGT, Int.reduceGE, Int.reduceEq, Int.reduceNe, Int.reduceBEq, Int.reduceBNe, Int.reduceAdd, Int.reduceSub, Int.reduceMul, Int.reduceNeg,  *]))
    rw [← HSV.out]
    refine newE_spec G HL.out.1 S (by have := HS.out.2; omega) sv m1 HS.out.1 _ (fun h K hK => hcl.out m1 (Sub.refl _) h K hK) (fun e h0 he => ?_) (fun T M1 hrc hR hsub hown hv => ?_)
    case' refine_1 =>
      have HE := Hid.mk (And.intro h0 he)
      clear h0 he
      repeat' (first | exact tf0 ‹_› | exact tf1 ‹_› | exact False.elim ‹_› | (with_reducible refine Al.intro ?_; intro pb hpb; (try simp only [hupd_none'] at hpb); (repeat rcases hpb with ⟨⟨hpx, hpy⟩, hpb⟩)) | with_reducible refine need ?_ | ((with_reducible first | apply frk0 | apply frk1 | apply frk2 | apply frk3 | apply frk4 | apply frk5 | apply frk6 | apply frk7 | apply frk8 | apply frk9) <;> intro h <;> try (exfalso; omega)) | with_reducible refine quiet_and ?_ ?_ | with_reducible refine awp_drawnA mixed (by decide +kernel) ?_ | ((fail_if_success with_reducible refine stp ?_); simp -implicitDefEqProofs only [go_sem, Nat.reduceEqDiff, Nat.reduceAdd, Nat.reduceLT, Nat.reduceMul, Nat.reduceSub, Nat.reduceLeDiff, ↓reduceIte, reduceCtorEq, ↓String.reduceEq, String.reduceNe, Int.reduceToNat, Int.reduceLT, Int.reduceLE, Int.reduceGT, Int.reduceGE, Int.reduceEq, Int.reduceNe, Int.reduceBEq, Int.reduceBNe, Int.reduceAdd, Int.reduceSub, Int.reduceMul, Int.reduceNeg,  *]))
      refine rnewE_spec G S (by have := HS.out.2; omega) sv m1 HS.out.1 _ (fun e2 h2 he2 => ?_) (fun R M2 hrc _ _ _ _ => absurd (HE.out.2.trans ((chkE_iff S 1).2 hrc)) HE.out.1)
      obtain rfl : e = e2 := HE.out.2.trans he2.symm
      clear h2 he2
      repeat' (first | exact tf0 ‹_› | exact tf1 ‹_› | exact False.elim ‹_› | (with_reducible refine Al.intro ?_; intro pb hpb; (try simp only [hupd_none'] at hpb); (repeat rcases hpb with ⟨⟨hpx, hpy⟩, hpb⟩)) | with_reducible refine need ?_ | ((with_reducible first | apply frk0 | apply frk1 | apply frk2 | apply frk3 | apply frk4 | apply frk5 | apply frk6 | apply frk7 | apply frk8 | apply frk9) <;> intro h <;> try (exfalso; omega)) | with_reducible refine quiet_and ?_ ?_ | with_reducible refine awp_drawnA mixed (by decide +kernel) ?_ | ((fail_if_success with_reducible refine stp ?_); simp -implicitDefEqProofs only [go_sem, Nat.reduceEqDiff, Nat.reduceAdd, Nat.reduceLT, Nat.reduceMul, Nat.reduceSub, Nat.reduceLeDiff, ↓reduceIte, reduceCtorEq, ↓String.reduceEq, String.reduceNe, Int.reduceToNat, Int.reduceLT, Int.reduceLE, Int.reduceGT, Int.reduceGE, Int.reduceEq, Int.reduceNe, Int.reduceBEq, Int.reduceBNe, Int.reduceAdd, Int.reduceSub, Int.reduceMul, Int.reduceNeg,  *]))
      refine CallWP.to (live34_spec G HL.out.1 _) ?_
      repeat' (first | exact tf0 ‹_› | exact tf1 ‹_› | exact False.elim ‹_› | (with_reducible refine Al.intro ?_; intro pb hpb; (try simp only [hupd_none'] at hpb); (repeat rcases hpb with ⟨⟨hpx, hpy⟩, hpb⟩)) | with_reducible refine need ?_ | ((with_reducible first | apply frk0 | apply frk1 | apply frk2 | apply frk3 | apply frk4 | apply frk5 | apply frk6 | apply frk7 | apply frk8 | apply frk9) <;> intro h <;> try (exfalso; omega)) | with_reducible refine quiet_and ?_ ?_ | with_reducible refine awp_drawnA mixed (by decide +kernel) ?_ | ((fail_if_success with_reducible refine stp ?_); simp -implicitDefEqProofs only [go_sem, Nat.reduceEqDiff, Nat.reduceAdd, Nat.reduceLT, Nat.reduceMul, Nat.reduceSub, Nat.reduceLeDiff, ↓reduceIte, reduceCtorEq, ↓String.reduceEq, String.reduceNe, Int.reduceToNat, Int.reduceLT, Int.reduceLE, Int.reduceGT, Int.reduceGE, Int.reduceEq, Int.reduceNe, Int.reduceBEq, Int.reduceBNe, Int.reduceAdd, Int.reduceSub, Int.reduceMul, Int.reduceNeg,  *]))
      exact ⟨m, H1.out, rfl, rfl⟩
    case' refine_2 =>
      have HT := Hid.mk (And.intro hR (And.intro hsub (And.intro hown (And.intro hv hrc))))
      clear hR hsub hown hv hrc
      repeat' (first | exact tf0 ‹_› | exact tf1 ‹_› | exact False.elim ‹_› | (with_reducible refine Al.intro ?_; intro pb hpb; (try simp only [hupd_none'] at hpb); (repeat rcases hpb with ⟨⟨hpx, hpy⟩, hpb⟩)) | with_reducible refine need ?_ | ((with_reducible first | apply frk0 | apply frk1 | apply frk2 | apply frk3 | apply frk4 | apply frk5 | apply frk6 | apply frk7 | apply frk8 | apply frk9) <;> intro h <;> try (exfalso; omega)) | with_reducible refine quiet_and ?_ ?_ | with_reducible refine awp_drawnA mixed (by decide +kernel) ?_ | ((fail_if_success with_reducible refine stp ?_); simp -implicitDefEqProofs only [go_sem, Nat.reduceEqDiff, Nat.reduceAdd, Nat.reduceLT, Nat.reduceMul, Nat.reduceSub, Nat.reduceLeDiff, ↓reduceIte, reduceCtorEq, ↓String.reduceEq, String.reduceNe, Int.reduceToNat, Int.reduceLT, Int.reduceLE, Int.reduceGT, Int.reduceGE, Int.reduceEq, Int.reduceNe, Int.reduceBEq, Int.reduceBNe, Int.reduceAdd, Int.reduceSub, Int.reduceMul, Int.reduceNeg,  *]))
      refine rnewE_spec G S (by have := HS.out.2; omega) sv M1 (HS.out.1.into HT.out.2.1) _ (fun e2 h2 he2 => absurd (he2.trans ((chkE_iff S 1).2 HT.out.2.2.2.2)) h2) (fun R M2 _ hR hsub hown hv => ?_)
      have hsep : Sep T S R m1 := ⟨fun c hc h => HT.out.1.owned hc (hown c h), fun c hc h => HT.out.1.owned hc (hv c h), fun c hc h => slm_some HT.out.1.str hc (hown c h), HT.out.2.2.1, fun c hc => HT.out.2.1.gone (hown c hc)⟩
      have HR := Hid.mk (And.intro hR (And.intro (subTrans HT.out.2.1 hsub) (And.intro hsep (HT.out.1.into hsub))))
      clear hR hsub hown hv hsep
      obtain ⟨rp, rvs, rvl⟩ := R
      repeat' (first | exact tf0 ‹_› | exact tf1 ‹_› | exact False.elim ‹_› | (with_reducible refine Al.intro ?_; intro pb hpb; (try simp only [hupd_none'] at hpb); (repeat rcases hpb with ⟨⟨hpx, hpy⟩, hpb⟩)) | with_reducible refine need ?_ | ((with_reducible first | apply frk0 | apply frk1 | apply frk2 | apply frk3 | apply frk4 | apply frk5 | apply frk6 | apply frk7 | apply frk8 | apply frk9) <;> intro h <;> try (exfalso; omega)) | with_reducible refine quiet_and ?_ ?_ | with_reducible refine awp_drawnA mixed (by decide +kernel) ?_ | ((fail_if_success with_reducible refine stp ?_); simp -implicitDefEqProofs only [go_sem, Nat.reduceEqDiff, Nat.reduceAdd, Nat.reduceLT, Nat.reduceMul, Nat.reduceSub, Nat.reduceLeDiff, ↓reduceIte, reduceCtorEq, ↓String.reduceEq, String.reduceNe, Int.reduceToNat, Int.reduceLT, Int.reduceLE, Int.reduceGT, Int.reduceGE, Int.reduceEq, Int.reduceNe, Int.reduceBEq, Int.reduceBNe, Int.reduceAdd, Int.reduceSub, Int.reduceMul, Int.reduceNeg,  *]))
      refine awp_loopP 0 (fun ts m' => Hid (Sub m1 m'))
        (fun k ts m' => ∃ (i : Nat) (L : List Ntd) (vl : AVal), Hid (k = 50 - i ∧ i ≤ 50 ∧ i ≤ n ∧ Rep T S L m' ∧ RRep ⟨rp, rvs, vl⟩ S L m' ∧ Sep T S ⟨rp, rvs, vl⟩ m1 ∧ GoodL S L ∧ GoodA L ∧ L.length ≤ i ∧ Sub m1 m') ∧ ts 1 = .list 10 (A.map encA) ∧ ts 7 = sv ∧ ts 8 = .ptr T.tb 0 ∧ ts 10 = .ptr rp 0 ∧ ts 12 = .int .i64 (i : Nat)) 50
        ⟨0, [], rvl, .mk ⟨rfl, by decide, Nat.zero_le _, HR.out.2.2.2, HR.out.1, HR.out.2.2.1, (fun x hx => by cases hx), (fun x hx => by cases hx), Nat.le_refl _, HR.out.2.1⟩, ttt, ttt, ttt, ttt, ttt⟩ ?_ ?_
      · rintro k ts m2 ⟨i, L, vl, H, t1, t7, t8, t10, t12⟩
        by_cases hi : i < n
        · have lt : (i : Int) < (n : Int) := by omega
          by_cases h50 : i < 50
          · have lt2 : (i : Int) < 50 := by omega
            have hiA : i < A.length := by have := HN.out.1; omega
            obtain ⟨⟨ki, id, ra, ⟨j0, j1, j2, j3⟩, tag, fa, at1⟩, hx⟩ : ∃ x, A.getD i default = x := ⟨_, rfl⟩
            have g1 := act_lst A i hiA _ hx
            have wi : IntKind.i64.wrap ((i : Int) + 1) = ((i + 1 : Nat) : Int) := by rw [wrap_i64 (by omega) (by omega)]; omega
            clear hx hiA
            simp only [encAc] at g1
            by_cases hk : ki = 0
            case' pos =>
              have hk0 : (ki == 0) = true := by simpa using hk
              clear hk
              repeat' (first | exact tf0 ‹_› | exact tf1 ‹_› | exact False.elim ‹_› | (with_reducible refine Al.intro ?_; intro pb hpb; (try simp only [hupd_none'] at hpb); (repeat rcases hpb with ⟨⟨hpx, hpy⟩, hpb⟩)) | with_reducible refine need ?_ | ((with_reducible first | apply frk0 | apply frk1 | apply frk2 | apply frk3 | apply frk4 | apply frk5 | apply frk6 | apply frk7 | apply frk8 | apply frk9) <;> intro h <;> try (exfalso; omega)) | with_reducible refine quiet_and ?_ ?_ | with_reducible refine awp_drawnA mixed (by decide +kernel) ?_ | ((fail_if_success with_reducible refine stp ?_); simp -implicitDefEqProofs only [go_sem, Nat.reduceEqDiff, Nat.reduceAdd, Nat.reduceLT, Nat.reduceMul, Nat.reduceSub, Nat.reduceLeDiff, ↓reduceIte, reduceCtorEq, ↓String.reduceEq, String.reduceNe, Int.reduceToNat, Int.reduceLT, Int.reduceLE, Int.reduceGT, Int.reduceGE, Int.reduceEq, Int.reduceNe, Int.reduceBEq, Int.reduceBNe, Int.reduceAdd, Int.reduceSub, Int.reduceMul, Int.reduceNeg,  *]))
              obtain ⟨p13, ep13⟩ : ∃ p, p = pb := ⟨_, rfl⟩
              subst ep13
              obtain ⟨M3, hM3, k13, kT, kR, ks⟩ : ∃ M3, M3 = hupd m2 p13 (.cells [.int .i64 ki, .int .i64 id, .bool ra, .int .i64 j0, .int .i64 j1, .int .i64 j2, .int .i64 j3, .int .i64 tag, .int .i64 fa, .int .i64 at1] 10) ∧ M3 p13 = some (.cells [.int .i64 ki, .int .i64 id, .bool ra, .int .i64 j0, .int .i64 j1, .int .i64 j2, .int .i64 j3, .int .i64 tag, .int .i64 fa, .int .i64 at1] 10) ∧ Rep T S L M3 ∧ RRep ⟨rp, rvs, vl⟩ S L M3 ∧ Sub m1 M3 :=
                ⟨_, rfl, by rw [hupd_at, if_pos rfl], H.out.2.2.2.1.fresh hpb, H.out.2.2.2.2.1.into ((Sub.refl _).fresh hpb), H.out.2.2.2.2.2.2.2.2.2.fresh (H.out.2.2.2.2.2.2.2.2.2.gone hpb)⟩
              have n13 : ¬ T.own S p13 := fun h => H.out.2.2.2.1.owned h hpb
              have n13r : ¬ (⟨rp, rvs, vl⟩ : Rtb).own p13 := fun h => H.out.2.2.2.2.1.owned h hpb
              rw [← hM3]
              have HA := Hid.mk (And.intro kT (And.intro kR (And.intro ks (And.intro n13 n13r))))
              clear hM3 kT kR ks n13 n13r hpb
              obtain ⟨⟨q0, q1, q2, q3⟩, hq⟩ : ∃ q, jobA S (ki, id, ra, (j0, j1, j2, j3), tag, fa, at1) = q := ⟨_, rfl⟩
              have HJ := job_spec G S (by have := HS.out.2; omega) (ki, id, ra, (j0, j1, j2, j3), tag, fa, at1) sv M3 (HS.out.1.into HA.out.2.2.1)
              rw [hq] at HJ
              have HJ := Hid.mk HJ
              clear hq
              refine CallWP.to HJ.out ?_
              have fr13 : ∀ c, M3 c = none → (p13 = c) = False := fun c h => by rw [eq_iff_iff, iff_false]; exact seenB k13 h
              repeat' (first | exact tf0 ‹_› | exact tf1 ‹_› | exact False.elim ‹_› | (with_reducible refine Al.intro ?_; intro pb hpb; (try simp only [hupd_none'] at hpb); (repeat rcases hpb with ⟨⟨hpx, hpy⟩, hpb⟩)) | with_reducible refine need ?_ | ((with_reducible first | apply frk0 | apply frk1 | apply frk2 | apply frk3 | apply frk4 | apply frk5 | apply frk6 | apply frk7 | apply frk8 | apply frk9) <;> intro h <;> try (exfalso; omega)) | with_reducible refine quiet_and ?_ ?_ | with_reducible refine awp_drawnA mixed (by decide +kernel) ?_ | ((fail_if_success with_reducible refine stp ?_); simp -implicitDefEqProofs only [go_sem, Nat.reduceEqDiff, Nat.reduceAdd, Nat.reduceLT, Nat.reduceMul, Nat.reduceSub, Nat.reduceLeDiff, ↓reduceIte, reduceCtorEq, ↓String.reduceEq, String.reduceNe, Int.reduceToNat, Int.reduceLT, Int.reduceLE, Int.reduceGT, Int.reduceGE, Int.reduceEq, Int.reduceNe, Int.reduceBEq, Int.reduceBNe, Int.reduceAdd, Int.reduceSub, Int.reduceMul, Int.reduceNeg,  encJ, encJc, *]))
              obtain ⟨p14, ep14⟩ : ∃ p, p = pb := ⟨_, rfl⟩
              subst ep14
              obtain ⟨M4, hM4, k14, k13', kT, kR, ks⟩ : ∃ M4, M4 = hupd M3 p14 (.cells [.int .i64 q0, .int .i64 q1, .int .i64 q2, .int .i64 q3] 4) ∧ M4 p14 = some (.cells [.int .i64 q0, .int .i64 q1, .int .i64 q2, .int .i64 q3] 4) ∧ M4 p13 = some (.cells [.int .i64 ki, .int .i64 id, .bool ra, .int .i64 j0, .int .i64 j1, .int .i64 j2, .int .i64 j3, .int .i64 tag, .int .i64 fa, .int .i64 at1] 10) ∧ Rep T S L M4 ∧ RRep ⟨rp, rvs, vl⟩ S L M4 ∧ Sub m1 M4 :=
                ⟨_, rfl, by rw [hupd_at, if_pos rfl], by rw [hupd_ne (seenB k13 hpb)]; exact k13, HA.out.1.fresh hpb, HA.out.2.1.into ((Sub.refl _).fresh hpb), HA.out.2.2.1.fresh (HA.out.2.2.1.gone hpb)⟩
              have n14 : ¬ T.own S p14 := fun h => HA.out.1.owned h hpb
              have n14r : ¬ (⟨rp, rvs, vl⟩ : Rtb).own p14 := fun h => HA.out.2.1.owned h hpb
              rw [← hM4]
              have HB := Hid.mk (And.intro kT (And.intro kR (And.intro ks (And.intro (And.intro HA.out.2.2.2.1 n14) (And.intro HA.out.2.2.2.2 n14r)))))
              clear hM4 kT kR ks n14 n14r hpb HJ fr13 k13 HA
              have k13 := k13'
              clear k13'
              refine awp_drawnE [(0, .q), (1, .q), (4, .q), (6, .r [5]), (7, .r [5]), (10, .r [5]), (2, .q), (8, .r [5]), (3, .q), (9, .r [5]), (5, .e), (11, .e), (12, .q)] (fun _ => .undef) (fun _ => False) (fun u y => y = p13 ∨ y = p14) mixed (by decide +kernel) ?_
              repeat' (first | exact tf0 ‹_› | exact tf1 ‹_› | exact False.elim ‹_› | (with_reducible refine Al.intro ?_; intro pb hpb; (try simp only [hupd_none'] at hpb); (repeat rcases hpb with ⟨⟨hpx, hpy⟩, hpb⟩)) | with_reducible refine need ?_ | ((with_reducible first | apply frk0 | apply frk1 | apply frk2 | apply frk3 | apply frk4 | apply frk5 | apply frk6 | apply frk7 | apply frk8 | apply frk9) <;> intro h <;> try (exfalso; omega)) | with_reducible refine quiet_and ?_ ?_ | with_reducible refine awp_drawnA mixed (by decide +kernel) ?_ | ((fail_if_success with_reducible refine stp ?_); simp -implicitDefEqProofs only [go_sem, Nat.reduceEqDiff, Nat.reduceAdd, Nat.reduceLT, Nat.reduceMul, Nat.reduceSub, Nat.reduceLeDiff, ↓reduceIte, reduceCtorEq, ↓String.reduceEq, String.reduceNe, Int.reduceToNat, Int.reduceLT, Int.reduceLE, Int.reduceGT, Int.reduceGE, Int.reduceEq, Int.reduceNe, Int.reduceBEq, Int.reduceBNe, Int.reduceAdd, Int.reduceSub, Int.reduceMul, Int.reduceNeg,  encJ, encJc, *]))
              refine take_spec G HL.out.1 T S L (by have := HS.out.2; omega) (by have := H.out.2.2.2.2.2.2.2.2.1; omega) tag (q0, q1, q2, q3) M4 HB.out.1 _ (fun M5 hR hE => ?_)
              have e13 : M5 p13 = M4 p13 := hE p13 (by rw [k13]; simp) HB.out.2.2.2.1.1
              have e14 : M5 p14 = M4 p14 := hE p14 (by rw [k14]; simp) HB.out.2.2.2.1.2
              have k13' := e13.trans k13
              have K14 := Hid.mk (e14.trans k14)
              have kR5 := HB.out.2.1.else' H.out.2.2.2.2.2.1 hE
              have s5 : Sub m1 M5 := fun c y hc => by
                have h4 := HB.out.2.2.1 c y hc
                rw [hE c (by rw [h4]; simp) (fun ho => by rw [H.out.2.2.2.2.2.1.f1 c ho] at hc; cases hc)]; exact h4
              have hG := takeF_good (C := S) (L := L) tag (q0, q1, q2, q3) H.out.2.2.2.2.2.2.1
              have hGA := takeF_goodA (C := S) (L := L) tag (q0, q1, q2, q3) H.out.2.2.2.2.2.2.2.1
              have hle : (takeF S L tag (q0, q1, q2, q3)).2.length ≤ i + 1 := by have := takeF_len S L tag (q0, q1, q2, q3); have := H.out.2.2.2.2.2.2.2.2.1; omega
              have HTK := Hid.mk (rttake_spec G ⟨rp, rvs, vl⟩ S L (by have := HS.out.2; omega) (by have := H.out.2.2.2.2.2.2.2.2.1; omega) tag (q0, q1, q2, q3) M5 kR5)
              obtain ⟨⟨er, L2⟩, hy⟩ : ∃ y, takeF S L tag (q0, q1, q2, q3) = y := ⟨_, rfl⟩
              rw [hy] at hR hG hGA hle HTK
              rw [hy]
              have HC := Hid.mk (And.intro hR (And.intro kR5 (And.intro s5 (And.intro hG (And.intro hGA hle)))))
              clear hR kR5 s5 hG hGA hle hy hE
              refine Need.intro (fun y hy => by rcases hy with rfl | rfl; exact e13; exact e14) ?_
              clear k13 e13 e14 k14
              have k13 := k13'
              clear k13'
              repeat' (first | exact tf0 ‹_› | exact tf1 ‹_› | exact False.elim ‹_› | (with_reducible refine Al.intro ?_; intro pb hpb; (try simp only [hupd_none'] at hpb); (repeat rcases hpb with ⟨⟨hpx, hpy⟩, hpb⟩)) | with_reducible refine need ?_ | ((with_reducible first | apply frk0 | apply frk1 | apply frk2 | apply frk3 | apply frk4 | apply frk5 | apply frk6 | apply frk7 | apply frk8 | apply frk9) <;> intro h <;> try (exfalso; omega)) | with_reducible refine quiet_and ?_ ?_ | with_reducible refine awp_drawnA mixed (by decide +kernel) ?_ | ((fail_if_success with_reducible refine stp ?_); simp -implicitDefEqProofs only [go_sem, Nat.reduceEqDiff, Nat.reduceAdd, Nat.reduceLT, Nat.reduceMul, Nat.reduceSub, Nat.reduceLeDiff, ↓reduceIte, reduceCtorEq, ↓String.reduceEq, String.reduceNe, Int.reduceToNat, Int.reduceLT, Int.reduceLE, Int.reduceGT, Int.reduceGE, Int.reduceEq, Int.reduceNe, Int.reduceBEq, Int.reduceBNe, Int.reduceAdd, Int.reduceSub, Int.reduceMul, Int.reduceNeg,  encJ, encJc, *]))
              refine HTK.out _ (fun vl2 M6 hR2 hE2 => ?_)
              have e13 : M6 p13 = M5 p13 := hE2.1 p13 (by rw [k13]; simp) HB.out.2.2.2.2.1
              have e14 : M6 p14 = M5 p14 := hE2.1 p14 (by rw [K14.out]; simp) HB.out.2.2.2.2.2
              have k13' := e13.trans k13
              have HD : Hid (Rep T S L2 M6 ∧ RRep ⟨rp, rvs, vl2⟩ S L2 M6 ∧ Sep T S ⟨rp, rvs, vl2⟩ m1 ∧ GoodL S L2 ∧ GoodA L2 ∧ L2.length ≤ i + 1 ∧ Sub m1 M6) :=
                .mk ⟨HC.out.1.else' H.out.2.2.2.2.2.1 hE2.1, hR2, H.out.2.2.2.2.2.1.turn HC.out.1 HC.out.2.2.1 hE2.2, HC.out.2.2.2.1, HC.out.2.2.2.2.1, HC.out.2.2.2.2.2, fun c y hc => by
                  have h5 := HC.out.2.2.1 c y hc
                  rw [hE2.1 c (by rw [h5]; simp) (fun ho => by rw [H.out.2.2.2.2.2.1.f2 c ho] at hc; cases hc)]; exact h5⟩
              refine Need.intro (fun y hy => by rcases hy with rfl | rfl; exact e13; exact e14) ?_
              clear hR2 hE2 k13 e13 e14 HTK
              have k13 := k13'
              clear k13'
              repeat' (first | exact tf0 ‹_› | exact tf1 ‹_› | exact False.elim ‹_› | (with_reducible refine Al.intro ?_; intro pb hpb; (try simp only [hupd_none'] at hpb); (repeat rcases hpb with ⟨⟨hpx, hpy⟩, hpb⟩)) | with_reducible refine need ?_ | ((with_reducible first | apply frk0 | apply frk1 | apply frk2 | apply frk3 | apply frk4 | apply frk5 | apply frk6 | apply frk7 | apply frk8 | apply frk9) <;> intro h <;> try (exfalso; omega)) | with_reducible refine quiet_and ?_ ?_ | with_reducible refine awp_drawnA mixed (by decide +kernel) ?_ | ((fail_if_success with_reducible refine stp ?_); simp -implicitDefEqProofs only [go_sem, Nat.reduceEqDiff, Nat.reduceAdd, Nat.reduceLT, Nat.reduceMul, Nat.reduceSub, Nat.reduceLeDiff, ↓reduceIte, reduceCtorEq, ↓String.reduceEq, String.reduceNe, Int.reduceToNat, Int.reduceLT, Int.reduceLE, Int.reduceGT, Int.reduceGE, Int.reduceEq, Int.reduceNe, Int.reduceBEq, Int.reduceBNe, Int.reduceAdd, Int.reduceSub, Int.reduceMul, Int.reduceNeg,  encJ, encJc, *]))
            case' neg =>
              have hk0 : (ki == 0) = false := by simpa using hk
              clear hk
              repeat' (first | exact tf0 ‹_› | exact tf1 ‹_› | exact False.elim ‹_› | (with_reducible refine Al.intro ?_; intro pb hpb; (try simp only [hupd_none'] at hpb); (repeat rcases hpb with ⟨⟨hpx, hpy⟩, hpb⟩)) | with_reducible refine need ?_ | ((with_reducible first | apply frk0 | apply frk1 | apply frk2 | apply frk3 | apply frk4 | apply frk5 | apply frk6 | apply frk7 | apply frk8 | apply frk9) <;> intro h <;> try (exfalso; omega)) | with_reducible refine quiet_and ?_ ?_ | with_reducible refine awp_drawnA mixed (by decide +kernel) ?_ | ((fail_if_success with_reducible refine stp ?_); simp -implicitDefEqProofs only [go_sem, Nat.reduceEqDiff, Nat.reduceAdd, Nat.reduceLT, Nat.reduceMul, Nat.reduceSub, Nat.reduceLeDiff, ↓reduceIte, reduceCtorEq, ↓String.reduceEq, String.reduceNe, Int.reduceToNat, Int.reduceLT, Int.reduceLE, Int.reduceGT, Int.reduceGE, Int.reduceEq, Int.reduceNe, Int.reduceBEq, Int.reduceBNe, Int.reduceAdd, Int.reduceSub, Int.reduceMul, Int.reduceNeg,  *]))
              obtain ⟨p13, ep13⟩ : ∃ p, p = pb := ⟨_, rfl⟩
              subst ep13
              obtain ⟨M4, hM4, k13, kT, kR, ks⟩ : ∃ M3, M3 = hupd m2 p13 (.cells [.int .i64 ki, .int .i64 id, .bool ra, .int .i64 j0, .int .i64 j1, .int .i64 j2, .int .i64 j3, .int .i64 tag, .int .i64 fa, .int .i64 at1] 10) ∧ M3 p13 = some (.cells [.int .i64 ki, .int .i64 id, .bool ra, .int .i64 j0, .int .i64 j1, .int .i64 j2, .int .i64 j3, .int .i64 tag, .int .i64 fa, .int .i64 at1] 10) ∧ Rep T S L M3 ∧ RRep ⟨rp, rvs, vl⟩ S L M3 ∧ Sub m1 M3 :=
                ⟨_, rfl, by rw [hupd_at, if_pos rfl], H.out.2.2.2.1.fresh hpb, H.out.2.2.2.2.1.into ((Sub.refl _).fresh hpb), H.out.2.2.2.2.2.2.2.2.2.fresh (H.out.2.2.2.2.2.2.2.2.2.gone hpb)⟩
              have n13 : ¬ T.own S p13 := fun h => H.out.2.2.2.1.owned h hpb
              have n13r : ¬ (⟨rp, rvs, vl⟩ : Rtb).own p13 := fun h => H.out.2.2.2.2.1.owned h hpb
              rw [← hM4]
              have HB := Hid.mk (And.intro kT (And.intro kR (And.intro ks (And.intro n13 n13r))))
              clear hM4 kT kR ks n13 n13r hpb
              refine awp_drawnE [(0, .q), (1, .q), (4, .r [3]), (5, .r [3]), (2, .q), (6, .r [3]), (3, .e), (7, .e), (8, .q)] (fun _ => .undef) (fun _ => False) (fun u y => y = p13) mixed (by decide +kernel) ?_
              repeat' (first | exact tf0 ‹_› | exact tf1 ‹_› | exact False.elim ‹_› | (with_reducible refine Al.intro ?_; intro pb hpb; (try simp only [hupd_none'] at hpb); (repeat rcases hpb with ⟨⟨hpx, hpy⟩, hpb⟩)) | with_reducible refine need ?_ | ((with_reducible first | apply frk0 | apply frk1 | apply frk2 | apply frk3 | apply frk4 | apply frk5 | apply frk6 | apply frk7 | apply frk8 | apply frk9) <;> intro h <;> try (exfalso; omega)) | with_reducible refine quiet_and ?_ ?_ | with_reducible refine awp_drawnA mixed (by decide +kernel) ?_ | ((fail_if_success with_reducible refine stp ?_); simp -implicitDefEqProofs only [go_sem, Nat.reduceEqDiff, Nat.reduceAdd, Nat.reduceLT, Nat.reduceMul, Nat.reduceSub, Nat.reduceLeDiff, ↓reduceIte, reduceCtorEq, ↓String.reduceEq, String.reduceNe, Int.reduceToNat, Int.reduceLT, Int.reduceLE, Int.reduceGT, Int.reduceGE, Int.reduceEq, Int.reduceNe, Int.reduceBEq, Int.reduceBNe, Int.reduceAdd, Int.reduceSub, Int.reduceMul, Int.reduceNeg,  encJ, encJc, *]))
              refine fate_spec G T S L (by have := H.out.2.2.2.2.2.2.2.2.1; omega) H.out.2.2.2.2.2.2.1 tag fa at1 M4 HB.out.1 _ (fun M5 hR hE => ?_)
              have e13 : M5 p13 = M4 p13 := hE p13 (by rw [k13]; simp) HB.out.2.2.2.1
              have k13' := e13.trans k13
              have kR5 := HB.out.2.1.else' H.out.2.2.2.2.2.1 hE
              have s5 : Sub m1 M5 := fun c y hc => by
                have h4 := HB.out.2.2.1 c y hc
                rw [hE c (by rw [h4]; simp) (fun ho => by rw [H.out.2.2.2.2.2.1.f1 c ho] at hc; cases hc)]; exact h4
              have hG := fateF_good (C := S) (L := L) tag fa at1 H.out.2.2.2.2.2.2.1
              have hGA := fateF_goodA (L := L) tag fa at1 H.out.2.2.2.2.2.2.2.1
              have hle : (fateF L tag fa at1).2.length ≤ i + 1 := by have := fateF_len L tag fa at1; have := H.out.2.2.2.2.2.2.2.2.1; omega
              have HTK := Hid.mk (rtfate_spec G ⟨rp, rvs, vl⟩ S L (by have := H.out.2.2.2.2.2.2.2.2.1; omega) tag fa at1 M5 kR5)
              obtain ⟨⟨er, L2⟩, hy⟩ : ∃ y, fateF L tag fa at1 = y := ⟨_, rfl⟩
              rw [hy] at hR hG hGA hle HTK
              rw [hy]
              have HC := Hid.mk (And.intro hR (And.intro kR5 (And.intro s5 (And.intro hG (And.intro hGA hle)))))
              clear hR kR5 s5 hG hGA hle hy hE
              refine Need.intro (fun y hy => by rw [hy]; exact e13) ?_
              clear k13 e13
              have k13 := k13'
              clear k13'
              repeat' (first | exact tf0 ‹_› | exact tf1 ‹_› | exact False.elim ‹_› | (with_reducible refine Al.intro ?_; intro pb hpb; (try simp only [hupd_none'] at hpb); (repeat rcases hpb with ⟨⟨hpx, hpy⟩, hpb⟩)) | with_reducible refine need ?_ | ((with_reducible first | apply frk0 | apply frk1 | apply frk2 | apply frk3 | apply frk4 | apply frk5 | apply frk6 | apply frk7 | apply frk8 | apply frk9) <;> intro h <;> try (exfalso; omega)) | with_reducible refine quiet_and ?_ ?_ | with_reducible refine awp_drawnA mixed (by decide +kernel) ?_ | ((fail_if_success with_reducible refine stp ?_); simp -implicitDefEqProofs only [go_sem, Nat.reduceEqDiff, Nat.reduceAdd, Nat.reduceLT, Nat.reduceMul, Nat.reduceSub, Nat.reduceLeDiff, ↓reduceIte, reduceCtorEq, ↓String.reduceEq, String.reduceNe, Int.reduceToNat, Int.reduceLT, Int.reduceLE, Int.reduceGT, Int.reduceGE, Int.reduceEq, Int.reduceNe, Int.reduceBEq, Int.reduceBNe, Int.reduceAdd, Int.reduceSub, Int.reduceMul, Int.reduceNeg,  encJ, encJc, *]))
              refine HTK.out _ (fun M6 hR2 hE2 => ?_)
              have e13 : M6 p13 = M5 p13 := hE2 p13 HB.out.2.2.2.2 (by rw [k13]; simp)
              have k13' := e13.trans k13
              obtain ⟨vl2, hvl2⟩ : ∃ v, v = vl := ⟨_, rfl⟩
              rw [← hvl2] at hR2
              have HD : Hid (Rep T S L2 M6 ∧ RRep ⟨rp, rvs, vl2⟩ S L2 M6 ∧ Sep T S ⟨rp, rvs, vl2⟩ m1 ∧ GoodL S L2 ∧ GoodA L2 ∧ L2.length ≤ i + 1 ∧ Sub m1 M6) :=
                .mk ⟨HC.out.1.else' H.out.2.2.2.2.2.1 (fun c h1 h2 => hE2 c h2 h1), hR2, by rw [hvl2]; exact H.out.2.2.2.2.2.1, HC.out.2.2.2.1, HC.out.2.2.2.2.1, HC.out.2.2.2.2.2, fun c y hc => by
                  have h5 := HC.out.2.2.1 c y hc
                  rw [hE2 c (fun ho => by rw [H.out.2.2.2.2.2.1.f2 c ho] at hc; cases hc) (by rw [h5]; simp)]; exact h5⟩
              refine Need.intro (fun y hy => by rw [hy]; exact e13) ?_
              clear hR2 hE2 k13 e13 HTK hvl2
              have k13 := k13'
              clear k13'
              repeat' (first | exact tf0 ‹_› | exact tf1 ‹_› | exact False.elim ‹_› | (with_reducible refine Al.intro ?_; intro pb hpb; (try simp only [hupd_none'] at hpb); (repeat rcases hpb with ⟨⟨hpx, hpy⟩, hpb⟩)) | with_reducible refine need ?_ | ((with_reducible first | apply frk0 | apply frk1 | apply frk2 | apply frk3 | apply frk4 | apply frk5 | apply frk6 | apply frk7 | apply frk8 | apply frk9) <;> intro h <;> try (exfalso; omega)) | with_reducible refine quiet_and ?_ ?_ | with_reducible refine awp_drawnA mixed (by decide +kernel) ?_ | ((fail_if_success with_reducible refine stp ?_); simp -implicitDefEqProofs only [go_sem, Nat.reduceEqDiff, Nat.reduceAdd, Nat.reduceLT, Nat.reduceMul, Nat.reduceSub, Nat.reduceLeDiff, ↓reduceIte, reduceCtorEq, ↓String.reduceEq, String.reduceNe, Int.reduceToNat, Int.reduceLT, Int.reduceLE, Int.reduceGT, Int.reduceGE, Int.reduceEq, Int.reduceNe, Int.reduceBEq, Int.reduceBNe, Int.reduceAdd, Int.reduceSub, Int.reduceMul, Int.reduceNeg,  encJ, encJc, *]))
            all_goals (
              have hnr := near_in id 8 (by decide)
              have HNR := near_spec G id 8 (by omega) M6
              obtain ⟨q, hq⟩ : ∃ q, nearF id 8 = q := ⟨_, rfl⟩
              rw [hq] at hnr HNR
              have HNR := Hid.mk HNR
              have HSM := Hid.mk (same34_spec G T ⟨rp, rvs, vl2⟩ S L2 (by have := HS.out.2; omega) (by have := HD.out.2.2.2.2.2.1; omega) HD.out.2.2.2.1 HD.out.2.2.2.2.1 (fun s hs => (rightS_zero.1 (HT.out.2.2.2.2.2.2.1 s hs)).2.2.1.1) q hnr.1 M6 HD.out.1 HD.out.2.1)
              clear hq hnr
              refine CallWP.to HNR.out ?_
              refine CallWP.to HSM.out ?_
              repeat' (first | exact tf0 ‹_› | exact tf1 ‹_› | exact False.elim ‹_› | (with_reducible refine Al.intro ?_; intro pb hpb; (try simp only [hupd_none'] at hpb); (repeat rcases hpb with ⟨⟨hpx, hpy⟩, hpb⟩)) | with_reducible refine need ?_ | ((with_reducible first | apply frk0 | apply frk1 | apply frk2 | apply frk3 | apply frk4 | apply frk5 | apply frk6 | apply frk7 | apply frk8 | apply frk9) <;> intro h <;> try (exfalso; omega)) | with_reducible refine quiet_and ?_ ?_ | with_reducible refine awp_drawnA mixed (by decide +kernel) ?_ | ((fail_if_success with_reducible refine stp ?_); simp -implicitDefEqProofs only [go_sem, Nat.reduceEqDiff, Nat.reduceAdd, Nat.reduceLT, Nat.reduceMul, Nat.reduceSub, Nat.reduceLeDiff, ↓reduceIte, reduceCtorEq, ↓String.reduceEq, String.reduceNe, Int.reduceToNat, Int.reduceLT, Int.reduceLE, Int.reduceGT, Int.reduceGE, Int.reduceEq, Int.reduceNe, Int.reduceBEq, Int.reduceBNe, Int.reduceAdd, Int.reduceSub, Int.reduceMul, Int.reduceNeg,  *]))
              exact Again.intro ⟨50 - (i + 1), by have := H.out.1; omega, _, Sub.refl _, i + 1, L2, vl2, .mk ⟨rfl, by omega, by omega, HD.out.1, HD.out.2.1, HD.out.2.2.1, HD.out.2.2.2.1, HD.out.2.2.2.2.1, HD.out.2.2.2.2.2.1, HD.out.2.2.2.2.2.2⟩, (by first | (simp only [upd, put, Nat.reduceEqDiff, ↓reduceIte, t1]; done) | (simp [upd, put, t1]; done) | rfl | (simp [upd, put, t1]; rfl)), (by first | (simp only [upd, put, Nat.reduceEqDiff, ↓reduceIte, t7]; done) | (simp [upd, put, t7]; done) | rfl | (simp [upd, put, t7]; rfl)), (by first | (simp only [upd, put, Nat.reduceEqDiff, ↓reduceIte, t8]; done) | (simp [upd, put, t8]; done) | rfl | (simp [upd, put, t8]; rfl)), (by first | (simp only [upd, put, Nat.reduceEqDiff, ↓reduceIte, t10]; done) | (simp [upd, put, t10]; done) | rfl | (simp [upd, put, t10]; rfl)), ttt⟩)
          · have lt2 : ¬ (i : Int) < 50 := by omega
            repeat' (first | exact tf0 ‹_› | exact tf1 ‹_› | exact False.elim ‹_› | (with_reducible refine Al.intro ?_; intro pb hpb; (try simp only [hupd_none'] at hpb); (repeat rcases hpb with ⟨⟨hpx, hpy⟩, hpb⟩)) | with_reducible refine need ?_ | ((with_reducible first | apply frk0 | apply frk1 | apply frk2 | apply frk3 | apply frk4 | apply frk5 | apply frk6 | apply frk7 | apply frk8 | apply frk9) <;> intro h <;> try (exfalso; omega)) | with_reducible refine quiet_and ?_ ?_ | with_reducible refine awp_drawnA mixed (by decide +kernel) ?_ | ((fail_if_success with_reducible refine stp ?_); simp -implicitDefEqProofs only [go_sem, Nat.reduceEqDiff, Nat.reduceAdd, Nat.reduceLT, Nat.reduceMul, Nat.reduceSub, Nat.reduceLeDiff, ↓reduceIte, reduceCtorEq, ↓String.reduceEq, String.reduceNe, Int.reduceToNat, Int.reduceLT, Int.reduceLE, Int.reduceGT, Int.reduceGE, Int.reduceEq, Int.reduceNe, Int.reduceBEq, Int.reduceBNe, Int.reduceAdd, Int.reduceSub, Int.reduceMul, Int.reduceNeg,  *]))
            exact Again.intro (.mk H.out.2.2.2.2.2.2.2.2.2)
        · have lt : ¬ (i : Int) < (n : Int) := by omega
          repeat' (first | exact tf0 ‹_› | exact tf1 ‹_› | exact False.elim ‹_› | (with_reducible refine Al.intro ?_; intro pb hpb; (try simp only [hupd_none'] at hpb); (repeat rcases hpb with ⟨⟨hpx, hpy⟩, hpb⟩)) | with_reducible refine need ?_ | ((with_reducible first | apply frk0 | apply frk1 | apply frk2 | apply frk3 | apply frk4 | apply frk5 | apply frk6 | apply frk7 | apply frk8 | apply frk9) <;> intro h <;> try (exfalso; omega)) | with_reducible refine quiet_and ?_ ?_ | with_reducible refine awp_drawnA mixed (by decide +kernel) ?_ | ((fail_if_success with_reducible refine stp ?_); simp -implicitDefEqProofs only [go_sem, Nat.reduceEqDiff, Nat.reduceAdd, Nat.reduceLT, Nat.reduceMul, Nat.reduceSub, Nat.reduceLeDiff, ↓reduceIte, reduceCtorEq, ↓String.reduceEq, String.reduceNe, Int.reduceToNat, Int.reduceLT, Int.reduceLE, Int.reduceGT, Int.reduceGE, Int.reduceEq, Int.reduceNe, Int.reduceBEq, Int.reduceBNe, Int.reduceAdd, Int.reduceSub, Int.reduceMul, Int.reduceNeg,  *]))
          exact Again.intro (.mk H.out.2.2.2.2.2.2.2.2.2)
      · rintro ts m2 H
        repeat' (first | exact tf0 ‹_› | exact tf1 ‹_› | exact False.elim ‹_› | (with_reducible refine Al.intro ?_; intro pb hpb; (try simp only [hupd_none'] at hpb); (repeat rcases hpb with ⟨⟨hpx, hpy⟩, hpb⟩)) | with_reducible refine need ?_ | ((with_reducible first | apply frk0 | apply frk1 | apply frk2 | apply frk3 | apply frk4 | apply frk5 | apply frk6 | apply frk7 | apply frk8 | apply frk9) <;> intro h <;> try (exfalso; omega)) | with_reducible refine quiet_and ?_ ?_ | with_reducible refine awp_drawnA mixed (by decide +kernel) ?_ | ((fail_if_success with_reducible refine stp ?_); simp -implicitDefEqProofs only [go_sem, Nat.reduceEqDiff, Nat.reduceAdd, Nat.reduceLT, Nat.reduceMul, Nat.reduceSub, Nat.reduceLeDiff, ↓reduceIte, reduceCtorEq, ↓String.reduceEq, String.reduceNe, Int.reduceToNat, Int.reduceLT, Int.reduceLE, Int.reduceGT, Int.reduceGE, Int.reduceEq, Int.reduceNe, Int.reduceBEq, Int.reduceBNe, Int.reduceAdd, Int.reduceSub, Int.reduceMul, Int.reduceNeg,  *]))
        refine CallWP.to (live34_spec G HL.out.1 _) ?_
        repeat' (first | exact tf0 ‹_› | exact tf1 ‹_› | exact False.elim ‹_› | (with_reducible refine Al.intro ?_; intro pb hpb; (try simp only [hupd_none'] at hpb); (repeat rcases hpb with ⟨⟨hpx, hpy⟩, hpb⟩)) | with_reducible refine need ?_ | ((with_reducible first | apply frk0 | apply frk1 | apply frk2 | apply frk3 | apply frk4 | apply frk5 | apply frk6 | apply frk7 | apply frk8 | apply frk9) <;> intro h <;> try (exfalso; omega)) | with_reducible refine quiet_and ?_ ?_ | with_reducible refine awp_drawnA mixed (by decide +kernel) ?_ | ((fail_if_success with_reducible refine stp ?_); simp -implicitDefEqProofs only [go_sem, Nat.reduceEqDiff, Nat.reduceAdd, Nat.reduceLT, Nat.reduceMul, Nat.reduceSub, Nat.reduceLeDiff, ↓reduceIte, reduceCtorEq, ↓String.reduceEq, String.reduceNe, Int.reduceToNat, Int.reduceLT, Int.reduceLE, Int.reduceGT, Int.reduceGE, Int.reduceEq, Int.reduceNe, Int.reduceBEq, Int.reduceBNe, Int.reduceAdd, Int.reduceSub, Int.reduceMul, Int.reduceNeg,  *]))
        exact ⟨m, subTrans H1.out H.out, rfl, rfl⟩)
end Go.Proofs.YtdckcophbmnjjaaGreatDoor
