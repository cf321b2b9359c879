/- What streams ask for together is what each asks for alone, all together. -/
import Derived.Test.YtmifapnmlhchlaaDoorY32
set_option linter.all false
namespace Go.Proofs.YtmifapnmlhchlaaDoor
open Go Go.Proofs.YtmifapnmlhchlaaDoor.Ab
open Go.Proofs (Tryd.prog)
set_option maxRecDepth 100000
/-- What each asks for alone, all together. -/
noncomputable def sumA (C : List Stm) (x n : Int) : Int := (C.map fun s => demC [s] x n).sum
theorem sumA_take (C : List Stm) (x n : Int) (i : Nat) (h : i < C.length) : sumA (C.take (i + 1)) x n = sumA (C.take i) x n + demC [C.getD i default] x n := by
  unfold sumA
  rw [take_one C i h, List.map_append, List.sum_append]; simp
theorem sumA_few (C : List Stm) (x n : Int) (h1 : 0 ≤ x) (h2 : x ≤ 65536) (hn : 1 ≤ n) (hn2 : n ≤ 100) : demC (fewN C 6) x n = sumA (fewN C 6) x n := by
  by_cases h0 : x = 0
  · subst h0
    rw [demC_zero]
    unfold sumA
    have : (fewN C 6).map (fun s => demC [s] 0 n) = (fewN C 6).map (fun _ => 0) := List.map_congr_left fun s _ => demC_zero [s] n
    rw [this]
    generalize fewN C 6 = L
    induction L with
    | nil => rfl
    | cons a t ih => rw [List.map_cons, List.sum_cons, ← ih]; rfl
  · rw [demC_few C x n (by omega) h2 hn hn2]
    unfold sumA demF
    congr 1
    refine List.map_congr_left fun s hs => ?_
    rw [demC_fsub C [s] x n (by omega) h2 hn hn2 (List.singleton_sublist.2 hs), dem1]
theorem demC_in {C : List Stm} {x n : Int} (hl : C.length ≤ 6) : 0 ≤ demC C x n ∧ demC C x n ≤ 1200000000000 := by
  unfold demC
  split
  · rename_i h
    have := demF_in (C := C) h.2.2.2.1 h.1.1 h.1.2 h.2.2.1.1 h.2.2.1.2
    have e : C.length ≤ 6 := hl
    omega
  · omega
theorem sumA_in (C : List Stm) (x n : Int) : 0 ≤ sumA C x n ∧ sumA C x n ≤ 1200000000000 * (C.length : Int) := by
  unfold sumA
  induction C with
  | nil => simp
  | cons a t ih =>
    have := demC_in (C := [a]) (x := x) (n := n) (by simp)
    rw [List.map_cons, List.sum_cons, List.length_cons]
    omega
/-- One of a row. -/
theorem slm_one {C : List Stm} {b o l cap : Nat} {m : Heap} (h : SlM encSc 7 C (.slice b o l cap) m) {i : Nat} (hi : i < C.length) : SlM encSc 7 [C.getD i default] (.slice b (o + i * 7) 1 (cap - i)) m := by
  obtain ⟨pre, post, N, rfl, rfl, hb, h1, h2⟩ := slm_slice h
  have e : C = C.take i ++ ([C.getD i default] ++ C.drop (i + 1)) := by
    rw [getD_get hi]
    have := List.take_append_drop i C
    rw [List.drop_eq_getElem_cons hi] at this
    simpa using this.symm
  have el : ((C.take i).flatMap encSc).length = i * 7 := by rw [flat_len encSc_len, List.length_take, Nat.min_eq_left (Nat.le_of_lt hi)]
  refine .inr ⟨b, _, hb, pre ++ (C.take i).flatMap encSc, (C.drop (i + 1)).flatMap encSc ++ post, N, cap - i, ?_, ?_, ?_, ?_⟩
  · congr 1; rw [List.length_append, el]
  · congr 1
    conv => lhs; rw [e, List.flatMap_append, List.flatMap_append]
    simp
  · rw [List.length_append, el]
    have : (cap - i) * 7 = cap * 7 - i * 7 := Nat.sub_mul cap i 7
    have : i * 7 ≤ cap * 7 := Nat.mul_le_mul_right 7 (by omega)
    omega
  · simp; omega
set_option maxHeartbeats 4000000 in
theorem topDemand_spec (G : Nat → AVal) (hG : DivOK G) (C : List Stm) (hl : C.length < 9223372036854775808) (sp ln : Int) (hsp : 0 ≤ sp ∧ sp ≤ 65535) (hln : 0 ≤ ln ∧ ln ≤ 255) (m : Heap) :
    CallWP Tryd.prog G 3 [.list 7 (C.map encS), .int .u16 sp, .int .u8 ln] m fun v m' => v = .bool true ∧ m' = m := by
  have HL := Hid.mk (And.intro hG hl)
  obtain ⟨r2, e2⟩ : ∃ r, ln.tmod 100 = r := ⟨_, rfl⟩
  have b2 : 0 ≤ r2 ∧ r2 < 100 := by rw [← e2]; exact ⟨Int.tmod_nonneg _ hln.1, Int.tmod_lt_of_pos _ (by decide)⟩
  have w1 : IntKind.i64.wrap sp = sp := wrap_i64 (by omega) (by omega)
  have w6 : IntKind.i64.wrap ln = ln := wrap_i64 (by omega) (by omega)
  have w7 : IntKind.i64.wrap r2 = r2 := wrap_i64 (by omega) (by omega)
  have w8 : IntKind.i64.wrap (r2 + 1) = r2 + 1 := wrap_i64 (by omega) (by omega)
  have HN := Hid.mk (And.intro hsp b2)
  clear hsp hln b2 hG hl
  refine callWP_body Tryd.func3 rfl (N := 88) rfl (rs := [.tmp 6]) rfl en_3 (of_decide_eq_true rfl) ?_
  repeat' (first | exact tf0 ‹_› | exact tf1 ‹_› | exact False.elim ‹_› | (with_reducible refine Al.intro ?_; intro pb hpb; (try simp only [hupd_none'] at hpb); (repeat rcases hpb with ⟨⟨hpx, hpy⟩, hpb⟩)) | with_reducible refine need ?_ | ((with_reducible first | refine frk0 ?_ ?_ | refine frk1 ?_ ?_ | refine frk2 ?_ ?_ | refine frk3 ?_ ?_ | refine frk4 ?_ ?_ | refine frk5 ?_ ?_ | refine frk6 ?_ ?_ | refine frk7 ?_ ?_ | refine frk8 ?_ ?_ | refine frk9 ?_ ?_) <;> intro h <;> try (exfalso; omega)) | with_reducible refine quiet_and ?_ ?_ | with_reducible refine awp_drawnA mixed (by decide +kernel) ?_ | ((fail_if_success with_reducible refine stp ?_); simp -implicitDefEqProofs only [go_sem, Nat.reduceEqDiff, Nat.reduceAdd, Nat.reduceLT, Nat.reduceMul, Nat.reduceSub, Nat.reduceLeDiff, ↓reduceIte, reduceCtorEq, ↓String.reduceEq, String.reduceNe, Int.reduceToNat, Int.reduceLT, Int.reduceLE, Int.reduceGT, Int.reduceGE, Int.reduceEq, Int.reduceNe, Int.reduceBEq, Int.reduceBNe, Int.reduceAdd, Int.reduceSub, Int.reduceMul, Int.reduceNeg,  *]))
  refine few_spec G C HL.out.2 m _ (fun v m1 hs hs1 hf => ?_)
  have hrt := few_right C 6 (by decide)
  have hq := sumA_few C sp (r2 + 1) (by have := HN.out; omega) (by have := HN.out; omega) (by have := HN.out; omega) (by have := HN.out; omega)
  have hrc := few_rightC C (r2 + 1) (by have := HN.out; omega) (by have := HN.out; omega)
  obtain ⟨S, hS⟩ : ∃ S, fewN C 6 = S := ⟨_, rfl⟩
  have hSl : S.length ≤ 6 := by rw [← hS, few_len]; omega
  rw [hS] at hs hq hrt hrc
  obtain ⟨LL, hLL⟩ : ∃ LL, LL = S.length := ⟨_, rfl⟩
  have hw : (v = .nils ∧ LL = 0) ∨ ∃ b pre post N cap, v = .slice b (pre : List AVal).length LL cap ∧ m1 b = some (.cells (pre ++ (S.flatMap encSc ++ post)) N) ∧ LL ≤ cap := by
    rcases hs with ⟨h1, h2⟩ | ⟨b, blk, hb, pre, post, N, cap, h1, h2, h3, h4⟩
    · exact .inl ⟨h1, by rw [hLL, h2]; rfl⟩
    · exact .inr ⟨b, pre, post, N, cap, by rw [hLL]; exact h1, by rw [hb, h2], by rw [hLL]; exact h4⟩
  have HS := Hid.mk (And.intro hs (And.intro hs1 (And.intro hLL hSl)))
  have HQ := Hid.mk (And.intro hq (And.intro hrt hrc))
  have hL6 : LL ≤ 6 := by omega
  have ll : (S.map encS).length = LL := by rw [List.length_map]; exact hLL.symm
  clear hq hrt hrc hs hs1 hf hS hSl hLL
  have hw2 : ∃ b pre post N cap, (v = .nils ∧ LL = 0) ∨ (v = .slice b (pre : List AVal).length LL cap ∧ m1 b = some (.cells (pre ++ (S.flatMap encSc ++ post)) N) ∧ LL ≤ cap) := by
    rcases hw with h | ⟨b, pre, post, N, cap, h⟩
    · exact ⟨0, [], [], 0, 0, .inl h⟩
    · exact ⟨b, pre, post, N, cap, .inr h⟩
  clear hw
  obtain ⟨b, pre, post, N, cap, hw⟩ := hw2
  rcases hw with ⟨hv, hz⟩ | ⟨hv, hb, hcap⟩
  all_goals (
    rw [hv]
    repeat' (first | exact tf0 ‹_› | exact tf1 ‹_› | exact False.elim ‹_› | (with_reducible refine Al.intro ?_; intro pb hpb; (try simp only [hupd_none'] at hpb); (repeat rcases hpb with ⟨⟨hpx, hpy⟩, hpb⟩)) | with_reducible refine need ?_ | ((with_reducible first | refine frk0 ?_ ?_ | refine frk1 ?_ ?_ | refine frk2 ?_ ?_ | refine frk3 ?_ ?_ | refine frk4 ?_ ?_ | refine frk5 ?_ ?_ | refine frk6 ?_ ?_ | refine frk7 ?_ ?_ | refine frk8 ?_ ?_ | refine frk9 ?_ ?_) <;> intro h <;> try (exfalso; omega)) | with_reducible refine quiet_and ?_ ?_ | with_reducible refine awp_drawnA mixed (by decide +kernel) ?_ | ((fail_if_success with_reducible refine stp ?_); simp -implicitDefEqProofs only [go_sem, Nat.reduceEqDiff, Nat.reduceAdd, Nat.reduceLT, Nat.reduceMul, Nat.reduceSub, Nat.reduceLeDiff, ↓reduceIte, reduceCtorEq, ↓String.reduceEq, String.reduceNe, Int.reduceToNat, Int.reduceLT, Int.reduceLE, Int.reduceGT, Int.reduceGE, Int.reduceEq, Int.reduceNe, Int.reduceBEq, Int.reduceBNe, Int.reduceAdd, Int.reduceSub, Int.reduceMul, Int.reduceNeg,  *]))
    refine awp_loopP 0 (fun ts m' => m' = m1 ∧ ts 1 = .int .u16 sp ∧ ts 7 = v ∧ ts 8 = .int .i64 (r2 + 1) ∧ ts 9 = .int .i64 (sumA S sp (r2 + 1)))
      (fun k ts m' => ∃ (a : Int) (i : Nat), Hid (k = LL - i ∧ i ≤ LL ∧ a = sumA (S.take i) sp (r2 + 1)) ∧ m' = m1 ∧ ts 1 = .int .u16 sp ∧ ts 7 = v ∧ ts 8 = .int .i64 (r2 + 1) ∧ ts 9 = .int .i64 a ∧ ts 10 = .int .i64 (i : Nat)) LL
      ⟨0, 0, .mk ⟨rfl, Nat.zero_le _, rfl⟩, rfl, ttt, (by first | (simp only [upd, put, Nat.reduceEqDiff, ↓reduceIte, hv]; done) | (simp [upd, put, hv]; done) | rfl | (simp [upd, put, hv]; rfl)), ttt, ttt, ttt⟩ ?_ ?_
    · rintro k ts m2 ⟨a, i, H, hm2, t1, t7, t8, t9, t10⟩
      subst m2
      by_cases hi : i < LL
      · by_cases hz0 : LL = 0
        · exfalso; omega
        have lt : (i : Int) < (LL : Int) := by omega
        have ci : ¬ (cap : Int) = (i : Int) := by first | omega | (intro hh; apply hz0; exact hz)
        have ci2 : (i : Int) + 1 ≤ (cap : Int) := by first | omega | (exfalso; exact hz0 hz)
        have hiS : i < S.length := by have := HS.out.2.2.1; omega
        obtain ⟨x, hx⟩ : ∃ x, S.getD i default = x := ⟨_, rfl⟩
        have g0 := sm_at S pre post i hiS x hx
        have g2 := sm_lst S i hiS x hx
        have l1 := sm_len S pre post i hiS
        have w3 : IntKind.i64.wrap ((i : Int) + 1) = ((i + 1 : Nat) : Int) := by rw [wrap_i64 (by omega) (by omega)]; omega
        have hst := sumA_take S sp (r2 + 1) i hiS
        rw [hx, ← H.out.2.2] at hst
        have hin := sumA_in (S.take i) sp (r2 + 1)
        rw [← H.out.2.2, List.length_take] at hin
        have hin2 := demC_in (C := [x]) (x := sp) (n := r2 + 1) (by simp)
        obtain ⟨d, hd⟩ : ∃ d, demC [x] sp (r2 + 1) = d := ⟨_, rfl⟩
        rw [hd] at hst hin2
        have w4 : IntKind.i64.wrap (a + d) = a + d := by
          have : min i S.length ≤ 6 := by omega
          exact wrap_i64 (by omega) (by omega)
        have hxm : x ∈ S := by rw [← hx]; exact getD_mem S i hiS
        have hxr : rightS x = 0 := HQ.out.2.1 x hxm
        have hxb := blk_le S x hxm
        obtain ⟨co, hco⟩ : ∃ d, costS x = d := ⟨_, rfl⟩
        obtain ⟨bk, hbk⟩ : ∃ d, blkF S = d := ⟨_, rfl⟩
        rw [hco, hbk] at hxb
        have g5 : ¬ co > bk := by omega
        have hSl2 : S.length < 9223372036854775808 := by have := HS.out.2.2.2; omega
        have HX := Hid.mk (And.intro hst (And.intro hd (And.intro hxr (And.intro hco (And.intro hbk hSl2)))))
        have HXX := Hid.mk (And.intro hx hiS)
        clear hx hiS hst hin hin2 hd hxm hxr hxb hco hbk hSl2
        have HO : Hid (v = .slice b pre.length LL cap → SlM encSc 7 [x] (.slice b (pre.length + i * 7) 1 (cap - i)) m1) := .mk (fun h => by
          have h1 := HS.out.1
          rw [h] at h1
          have := slm_one h1 (i := i) HXX.out.2
          rwa [HXX.out.1] at this)
        repeat' (first | exact tf0 ‹_› | exact tf1 ‹_› | exact False.elim ‹_› | (with_reducible refine Al.intro ?_; intro pb hpb; (try simp only [hupd_none'] at hpb); (repeat rcases hpb with ⟨⟨hpx, hpy⟩, hpb⟩)) | with_reducible refine need ?_ | ((with_reducible first | refine frk0 ?_ ?_ | refine frk1 ?_ ?_ | refine frk2 ?_ ?_ | refine frk3 ?_ ?_ | refine frk4 ?_ ?_ | refine frk5 ?_ ?_ | refine frk6 ?_ ?_ | refine frk7 ?_ ?_ | refine frk8 ?_ ?_ | refine frk9 ?_ ?_) <;> intro h <;> try (exfalso; omega)) | with_reducible refine quiet_and ?_ ?_ | with_reducible refine awp_drawnA mixed (by decide +kernel) ?_ | ((fail_if_success with_reducible refine stp ?_); simp -implicitDefEqProofs only [go_sem, Nat.reduceEqDiff, Nat.reduceAdd, Nat.reduceLT, Nat.reduceMul, Nat.reduceSub, Nat.reduceLeDiff, ↓reduceIte, reduceCtorEq, ↓String.reduceEq, String.reduceNe, Int.reduceToNat, Int.reduceLT, Int.reduceLE, Int.reduceGT, Int.reduceGE, Int.reduceEq, Int.reduceNe, Int.reduceBEq, Int.reduceBNe, Int.reduceAdd, Int.reduceSub, Int.reduceMul, Int.reduceNeg,  encSc, *]))
        all_goals (
          rw [show i + 1 - i = 1 by omega]
          refine CallWP.to (pOf_spec G HL.out.1 [x] (by simp) _ _ _ _ (.inl (HO.out hv))) ?_
          rw [HX.out.2.1]
          repeat' (first | exact tf0 ‹_› | exact tf1 ‹_› | exact False.elim ‹_› | (with_reducible refine Al.intro ?_; intro pb hpb; (try simp only [hupd_none'] at hpb); (repeat rcases hpb with ⟨⟨hpx, hpy⟩, hpb⟩)) | with_reducible refine need ?_ | ((with_reducible first | refine frk0 ?_ ?_ | refine frk1 ?_ ?_ | refine frk2 ?_ ?_ | refine frk3 ?_ ?_ | refine frk4 ?_ ?_ | refine frk5 ?_ ?_ | refine frk6 ?_ ?_ | refine frk7 ?_ ?_ | refine frk8 ?_ ?_ | refine frk9 ?_ ?_) <;> intro h <;> try (exfalso; omega)) | with_reducible refine quiet_and ?_ ?_ | with_reducible refine awp_drawnA mixed (by decide +kernel) ?_ | ((fail_if_success with_reducible refine stp ?_); simp -implicitDefEqProofs only [go_sem, Nat.reduceEqDiff, Nat.reduceAdd, Nat.reduceLT, Nat.reduceMul, Nat.reduceSub, Nat.reduceLeDiff, ↓reduceIte, reduceCtorEq, ↓String.reduceEq, String.reduceNe, Int.reduceToNat, Int.reduceLT, Int.reduceLE, Int.reduceGT, Int.reduceGE, Int.reduceEq, Int.reduceNe, Int.reduceBEq, Int.reduceBNe, Int.reduceAdd, Int.reduceSub, Int.reduceMul, Int.reduceNeg,  encSc, *]))
          refine CallWP.to (pright_spec G x _) ?_
          rw [HX.out.2.2.1]
          repeat' (first | exact tf0 ‹_› | exact tf1 ‹_› | exact False.elim ‹_› | (with_reducible refine Al.intro ?_; intro pb hpb; (try simp only [hupd_none'] at hpb); (repeat rcases hpb with ⟨⟨hpx, hpy⟩, hpb⟩)) | with_reducible refine need ?_ | ((with_reducible first | refine frk0 ?_ ?_ | refine frk1 ?_ ?_ | refine frk2 ?_ ?_ | refine frk3 ?_ ?_ | refine frk4 ?_ ?_ | refine frk5 ?_ ?_ | refine frk6 ?_ ?_ | refine frk7 ?_ ?_ | refine frk8 ?_ ?_ | refine frk9 ?_ ?_) <;> intro h <;> try (exfalso; omega)) | with_reducible refine quiet_and ?_ ?_ | with_reducible refine awp_drawnA mixed (by decide +kernel) ?_ | ((fail_if_success with_reducible refine stp ?_); simp -implicitDefEqProofs only [go_sem, Nat.reduceEqDiff, Nat.reduceAdd, Nat.reduceLT, Nat.reduceMul, Nat.reduceSub, Nat.reduceLeDiff, ↓reduceIte, reduceCtorEq, ↓String.reduceEq, String.reduceNe, Int.reduceToNat, Int.reduceLT, Int.reduceLE, Int.reduceGT, Int.reduceGE, Int.reduceEq, Int.reduceNe, Int.reduceBEq, Int.reduceBNe, Int.reduceAdd, Int.reduceSub, Int.reduceMul, Int.reduceNeg,  encSc, *]))
          refine CallWP.to (pcost_spec G HL.out.1 x _) ?_
          rw [HX.out.2.2.2.1]
          repeat' (first | exact tf0 ‹_› | exact tf1 ‹_› | exact False.elim ‹_› | (with_reducible refine Al.intro ?_; intro pb hpb; (try simp only [hupd_none'] at hpb); (repeat rcases hpb with ⟨⟨hpx, hpy⟩, hpb⟩)) | with_reducible refine need ?_ | ((with_reducible first | refine frk0 ?_ ?_ | refine frk1 ?_ ?_ | refine frk2 ?_ ?_ | refine frk3 ?_ ?_ | refine frk4 ?_ ?_ | refine frk5 ?_ ?_ | refine frk6 ?_ ?_ | refine frk7 ?_ ?_ | refine frk8 ?_ ?_ | refine frk9 ?_ ?_) <;> intro h <;> try (exfalso; omega)) | with_reducible refine quiet_and ?_ ?_ | with_reducible refine awp_drawnA mixed (by decide +kernel) ?_ | ((fail_if_success with_reducible refine stp ?_); simp -implicitDefEqProofs only [go_sem, Nat.reduceEqDiff, Nat.reduceAdd, Nat.reduceLT, Nat.reduceMul, Nat.reduceSub, Nat.reduceLeDiff, ↓reduceIte, reduceCtorEq, ↓String.reduceEq, String.reduceNe, Int.reduceToNat, Int.reduceLT, Int.reduceLE, Int.reduceGT, Int.reduceGE, Int.reduceEq, Int.reduceNe, Int.reduceBEq, Int.reduceBNe, Int.reduceAdd, Int.reduceSub, Int.reduceMul, Int.reduceNeg,  encSc, *]))
          refine CallWP.to (pblock_spec G HL.out.1 S HX.out.2.2.2.2.2 _ _ (by rw [← hv]; exact .inl HS.out.1)) ?_
          rw [HX.out.2.2.2.2.1]
          repeat' (first | exact tf0 ‹_› | exact tf1 ‹_› | exact False.elim ‹_› | (with_reducible refine Al.intro ?_; intro pb hpb; (try simp only [hupd_none'] at hpb); (repeat rcases hpb with ⟨⟨hpx, hpy⟩, hpb⟩)) | with_reducible refine need ?_ | ((with_reducible first | refine frk0 ?_ ?_ | refine frk1 ?_ ?_ | refine frk2 ?_ ?_ | refine frk3 ?_ ?_ | refine frk4 ?_ ?_ | refine frk5 ?_ ?_ | refine frk6 ?_ ?_ | refine frk7 ?_ ?_ | refine frk8 ?_ ?_ | refine frk9 ?_ ?_) <;> intro h <;> try (exfalso; omega)) | with_reducible refine quiet_and ?_ ?_ | with_reducible refine awp_drawnA mixed (by decide +kernel) ?_ | ((fail_if_success with_reducible refine stp ?_); simp -implicitDefEqProofs only [go_sem, Nat.reduceEqDiff, Nat.reduceAdd, Nat.reduceLT, Nat.reduceMul, Nat.reduceSub, Nat.reduceLeDiff, ↓reduceIte, reduceCtorEq, ↓String.reduceEq, String.reduceNe, Int.reduceToNat, Int.reduceLT, Int.reduceLE, Int.reduceGT, Int.reduceGE, Int.reduceEq, Int.reduceNe, Int.reduceBEq, Int.reduceBNe, Int.reduceAdd, Int.reduceSub, Int.reduceMul, Int.reduceNeg,  encSc, *]))
          exact Again.intro ⟨LL - (i + 1), by have := H.out.1; omega, _, Sub.refl _, a + d, i + 1, .mk ⟨rfl, by omega, HX.out.1.symm⟩, rfl, (by first | (simp only [upd, put, Nat.reduceEqDiff, ↓reduceIte, t1]; done) | (simp [upd, put, t1]; done) | rfl | (simp [upd, put, t1]; rfl)), (by first | (simp only [upd, put, Nat.reduceEqDiff, ↓reduceIte, t7, hv]; done) | (simp [upd, put, t7, hv]; done) | rfl | (simp [upd, put, t7, hv]; rfl)), (by first | (simp only [upd, put, Nat.reduceEqDiff, ↓reduceIte, t8]; done) | (simp [upd, put, t8]; done) | rfl | (simp [upd, put, t8]; rfl)), ttt, ttt⟩)
      · have lt : ¬ (i : Int) < (LL : Int) := by omega
        have e : a = sumA S sp (r2 + 1) := by have h := H.out.2.2; rwa [List.take_of_length_le (by have := HS.out.2.2.1; omega)] at h
        have HE := Hid.mk e
        clear e
        repeat' (first | exact tf0 ‹_› | exact tf1 ‹_› | exact False.elim ‹_› | (with_reducible refine Al.intro ?_; intro pb hpb; (try simp only [hupd_none'] at hpb); (repeat rcases hpb with ⟨⟨hpx, hpy⟩, hpb⟩)) | with_reducible refine need ?_ | ((with_reducible first | refine frk0 ?_ ?_ | refine frk1 ?_ ?_ | refine frk2 ?_ ?_ | refine frk3 ?_ ?_ | refine frk4 ?_ ?_ | refine frk5 ?_ ?_ | refine frk6 ?_ ?_ | refine frk7 ?_ ?_ | refine frk8 ?_ ?_ | refine frk9 ?_ ?_) <;> intro h <;> try (exfalso; omega)) | with_reducible refine quiet_and ?_ ?_ | with_reducible refine awp_drawnA mixed (by decide +kernel) ?_ | ((fail_if_success with_reducible refine stp ?_); simp -implicitDefEqProofs only [go_sem, Nat.reduceEqDiff, Nat.reduceAdd, Nat.reduceLT, Nat.reduceMul, Nat.reduceSub, Nat.reduceLeDiff, ↓reduceIte, reduceCtorEq, ↓String.reduceEq, String.reduceNe, Int.reduceToNat, Int.reduceLT, Int.reduceLE, Int.reduceGT, Int.reduceGE, Int.reduceEq, Int.reduceNe, Int.reduceBEq, Int.reduceBNe, Int.reduceAdd, Int.reduceSub, Int.reduceMul, Int.reduceNeg,  *]))
        exact Again.intro ⟨rfl, (by first | (simp only [upd, put, Nat.reduceEqDiff, ↓reduceIte, t1]; done) | (simp [upd, put, t1]; done) | rfl | (simp [upd, put, t1]; rfl)), (by first | (simp only [upd, put, Nat.reduceEqDiff, ↓reduceIte, t7, hv]; done) | (simp [upd, put, t7, hv]; done) | rfl | (simp [upd, put, t7, hv]; rfl)), (by first | (simp only [upd, put, Nat.reduceEqDiff, ↓reduceIte, t8]; done) | (simp [upd, put, t8]; done) | rfl | (simp [upd, put, t8]; rfl)), by rw [← HE.out]; exact ((by first | (simp only [upd, put, Nat.reduceEqDiff, ↓reduceIte, t9]; done) | (simp [upd, put, t9]; done) | rfl | (simp [upd, put, t9]; rfl)))⟩
    · rintro ts m2 ⟨hm2, t1, t7, t8, t9⟩
      subst m2
      have hSl2 : Hid (S.length < 9223372036854775808) := .mk (by have := HS.out.2.2.2; omega)
      repeat' (first | exact tf0 ‹_› | exact tf1 ‹_› | exact False.elim ‹_› | (with_reducible refine Al.intro ?_; intro pb hpb; (try simp only [hupd_none'] at hpb); (repeat rcases hpb with ⟨⟨hpx, hpy⟩, hpb⟩)) | with_reducible refine need ?_ | ((with_reducible first | refine frk0 ?_ ?_ | refine frk1 ?_ ?_ | refine frk2 ?_ ?_ | refine frk3 ?_ ?_ | refine frk4 ?_ ?_ | refine frk5 ?_ ?_ | refine frk6 ?_ ?_ | refine frk7 ?_ ?_ | refine frk8 ?_ ?_ | refine frk9 ?_ ?_) <;> intro h <;> try (exfalso; omega)) | with_reducible refine quiet_and ?_ ?_ | with_reducible refine awp_drawnA mixed (by decide +kernel) ?_ | ((fail_if_success with_reducible refine stp ?_); simp -implicitDefEqProofs only [go_sem, Nat.reduceEqDiff, Nat.reduceAdd, Nat.reduceLT, Nat.reduceMul, Nat.reduceSub, Nat.reduceLeDiff, ↓reduceIte, reduceCtorEq, ↓String.reduceEq, String.reduceNe, Int.reduceToNat, Int.reduceLT, Int.reduceLE, Int.reduceGT, Int.reduceGE, Int.reduceEq, Int.reduceNe, Int.reduceBEq, Int.reduceBNe, Int.reduceAdd, Int.reduceSub, Int.reduceMul, Int.reduceNeg,  *]))
      refine ppass_spec G HL.out.1 S hSl2.out (r2 + 1) 3000 _ _ (by rw [← hv]; exact .inl HS.out.1) _ (fun at1 ok m2 hp hs2 => ?_)
      have hR : RdS S v m2 := RdS.into (.inl HS.out.1) hs2
      have HP := Hid.mk (And.intro hp (And.intro hR (subTrans HS.out.2.1 hs2)))
      clear hp hs2 hR
      repeat' (first | exact tf0 ‹_› | exact tf1 ‹_› | exact False.elim ‹_› | (with_reducible refine Al.intro ?_; intro pb hpb; (try simp only [hupd_none'] at hpb); (repeat rcases hpb with ⟨⟨hpx, hpy⟩, hpb⟩)) | with_reducible refine need ?_ | ((with_reducible first | refine frk0 ?_ ?_ | refine frk1 ?_ ?_ | refine frk2 ?_ ?_ | refine frk3 ?_ ?_ | refine frk4 ?_ ?_ | refine frk5 ?_ ?_ | refine frk6 ?_ ?_ | refine frk7 ?_ ?_ | refine frk8 ?_ ?_ | refine frk9 ?_ ?_) <;> intro h <;> try (exfalso; omega)) | with_reducible refine quiet_and ?_ ?_ | with_reducible refine awp_drawnA mixed (by decide +kernel) ?_ | ((fail_if_success with_reducible refine stp ?_); simp -implicitDefEqProofs only [go_sem, Nat.reduceEqDiff, Nat.reduceAdd, Nat.reduceLT, Nat.reduceMul, Nat.reduceSub, Nat.reduceLeDiff, ↓reduceIte, reduceCtorEq, ↓String.reduceEq, String.reduceNe, Int.reduceToNat, Int.reduceLT, Int.reduceLE, Int.reduceGT, Int.reduceGE, Int.reduceEq, Int.reduceNe, Int.reduceBEq, Int.reduceBNe, Int.reduceAdd, Int.reduceSub, Int.reduceMul, Int.reduceNeg,  *]))
      refine CallWP.to (pOf_spec G HL.out.1 S hSl2.out _ _ _ _ (by rw [← hv]; exact HP.out.2.1)) ?_
      rw [HQ.out.1]
      cases ok with
      | true =>
        repeat' (first | exact tf0 ‹_› | exact tf1 ‹_› | exact False.elim ‹_› | (with_reducible refine Al.intro ?_; intro pb hpb; (try simp only [hupd_none'] at hpb); (repeat rcases hpb with ⟨⟨hpx, hpy⟩, hpb⟩)) | with_reducible refine need ?_ | ((with_reducible first | refine frk0 ?_ ?_ | refine frk1 ?_ ?_ | refine frk2 ?_ ?_ | refine frk3 ?_ ?_ | refine frk4 ?_ ?_ | refine frk5 ?_ ?_ | refine frk6 ?_ ?_ | refine frk7 ?_ ?_ | refine frk8 ?_ ?_ | refine frk9 ?_ ?_) <;> intro h <;> try (exfalso; omega)) | with_reducible refine quiet_and ?_ ?_ | with_reducible refine awp_drawnA mixed (by decide +kernel) ?_ | ((fail_if_success with_reducible refine stp ?_); simp -implicitDefEqProofs only [go_sem, Nat.reduceEqDiff, Nat.reduceAdd, Nat.reduceLT, Nat.reduceMul, Nat.reduceSub, Nat.reduceLeDiff, ↓reduceIte, reduceCtorEq, ↓String.reduceEq, String.reduceNe, Int.reduceToNat, Int.reduceLT, Int.reduceLE, Int.reduceGT, Int.reduceGE, Int.reduceEq, Int.reduceNe, Int.reduceBEq, Int.reduceBNe, Int.reduceAdd, Int.reduceSub, Int.reduceMul, Int.reduceNeg,  *]))
        refine CallWP.to (pright_spec G (0, 0, 0, 0, 0, 0, 0) _) ?_
        rw [show rightS (0, 0, 0, 0, 0, 0, 0) = 10 by decide]
        repeat' (first | exact tf0 ‹_› | exact tf1 ‹_› | exact False.elim ‹_› | (with_reducible refine Al.intro ?_; intro pb hpb; (try simp only [hupd_none'] at hpb); (repeat rcases hpb with ⟨⟨hpx, hpy⟩, hpb⟩)) | with_reducible refine need ?_ | ((with_reducible first | refine frk0 ?_ ?_ | refine frk1 ?_ ?_ | refine frk2 ?_ ?_ | refine frk3 ?_ ?_ | refine frk4 ?_ ?_ | refine frk5 ?_ ?_ | refine frk6 ?_ ?_ | refine frk7 ?_ ?_ | refine frk8 ?_ ?_ | refine frk9 ?_ ?_) <;> intro h <;> try (exfalso; omega)) | with_reducible refine quiet_and ?_ ?_ | with_reducible refine awp_drawnA mixed (by decide +kernel) ?_ | ((fail_if_success with_reducible refine stp ?_); simp -implicitDefEqProofs only [go_sem, Nat.reduceEqDiff, Nat.reduceAdd, Nat.reduceLT, Nat.reduceMul, Nat.reduceSub, Nat.reduceLeDiff, ↓reduceIte, reduceCtorEq, ↓String.reduceEq, String.reduceNe, Int.reduceToNat, Int.reduceLT, Int.reduceLE, Int.reduceGT, Int.reduceGE, Int.reduceEq, Int.reduceNe, Int.reduceBEq, Int.reduceBNe, Int.reduceAdd, Int.reduceSub, Int.reduceMul, Int.reduceNeg,  *]))
        exact ⟨m, HP.out.2.2, rfl, rfl⟩
      | false =>
        have hfa : (1 ≤ at1 ∧ at1 ≤ 3000) ∧ Fails S at1 (r2 + 1) := by
          rcases HP.out.1 with ⟨h, _⟩ | ⟨_, _, ⟨_, h, _⟩ | ⟨h1, _, h2, _⟩⟩
          · exact absurd ⟨HQ.out.2.2, by decide, by decide⟩ h
          · cases h
          · exact ⟨h1, h2⟩
        have g1 : at1 ≥ 1 := hfa.1.1
        have hdc := demC_pos hfa.1.1 (by have := hfa.1.2; omega) HQ.out.2.2
        have hdi := demC_in (C := S) (x := at1) (n := r2 + 1) HS.out.2.2.2
        have hbi := blk_in S
        have hff := hfa.2.2
        rw [← hdc] at hff
        obtain ⟨d, hd⟩ : ∃ d, demC S at1 (r2 + 1) = d := ⟨_, rfl⟩
        obtain ⟨bk, hbk⟩ : ∃ d, blkF S = d := ⟨_, rfl⟩
        rw [hd, hbk] at hff
        rw [hd] at hdi
        rw [hbk] at hbi
        have w5 : IntKind.i64.wrap (d + bk) = d + bk := wrap_i64 (by omega) (by omega)
        have g2 : d + bk > at1 := by omega
        have HV := Hid.mk (And.intro hd hbk)
        clear hfa hdc hdi hbi hff hd hbk
        repeat' (first | exact tf0 ‹_› | exact tf1 ‹_› | exact False.elim ‹_› | (with_reducible refine Al.intro ?_; intro pb hpb; (try simp only [hupd_none'] at hpb); (repeat rcases hpb with ⟨⟨hpx, hpy⟩, hpb⟩)) | with_reducible refine need ?_ | ((with_reducible first | refine frk0 ?_ ?_ | refine frk1 ?_ ?_ | refine frk2 ?_ ?_ | refine frk3 ?_ ?_ | refine frk4 ?_ ?_ | refine frk5 ?_ ?_ | refine frk6 ?_ ?_ | refine frk7 ?_ ?_ | refine frk8 ?_ ?_ | refine frk9 ?_ ?_) <;> intro h <;> try (exfalso; omega)) | with_reducible refine quiet_and ?_ ?_ | with_reducible refine awp_drawnA mixed (by decide +kernel) ?_ | ((fail_if_success with_reducible refine stp ?_); simp -implicitDefEqProofs only [go_sem, Nat.reduceEqDiff, Nat.reduceAdd, Nat.reduceLT, Nat.reduceMul, Nat.reduceSub, Nat.reduceLeDiff, ↓reduceIte, reduceCtorEq, ↓String.reduceEq, String.reduceNe, Int.reduceToNat, Int.reduceLT, Int.reduceLE, Int.reduceGT, Int.reduceGE, Int.reduceEq, Int.reduceNe, Int.reduceBEq, Int.reduceBNe, Int.reduceAdd, Int.reduceSub, Int.reduceMul, Int.reduceNeg,  *]))
        refine CallWP.to (pOf_spec G HL.out.1 S hSl2.out _ _ _ _ (by rw [← hv]; exact HP.out.2.1)) ?_
        rw [HV.out.1]
        repeat' (first | exact tf0 ‹_› | exact tf1 ‹_› | exact False.elim ‹_› | (with_reducible refine Al.intro ?_; intro pb hpb; (try simp only [hupd_none'] at hpb); (repeat rcases hpb with ⟨⟨hpx, hpy⟩, hpb⟩)) | with_reducible refine need ?_ | ((with_reducible first | refine frk0 ?_ ?_ | refine frk1 ?_ ?_ | refine frk2 ?_ ?_ | refine frk3 ?_ ?_ | refine frk4 ?_ ?_ | refine frk5 ?_ ?_ | refine frk6 ?_ ?_ | refine frk7 ?_ ?_ | refine frk8 ?_ ?_ | refine frk9 ?_ ?_) <;> intro h <;> try (exfalso; omega)) | with_reducible refine quiet_and ?_ ?_ | with_reducible refine awp_drawnA mixed (by decide +kernel) ?_ | ((fail_if_success with_reducible refine stp ?_); simp -implicitDefEqProofs only [go_sem, Nat.reduceEqDiff, Nat.reduceAdd, Nat.reduceLT, Nat.reduceMul, Nat.reduceSub, Nat.reduceLeDiff, ↓reduceIte, reduceCtorEq, ↓String.reduceEq, String.reduceNe, Int.reduceToNat, Int.reduceLT, Int.reduceLE, Int.reduceGT, Int.reduceGE, Int.reduceEq, Int.reduceNe, Int.reduceBEq, Int.reduceBNe, Int.reduceAdd, Int.reduceSub, Int.reduceMul, Int.reduceNeg,  *]))
        refine CallWP.to (pblock_spec G HL.out.1 S hSl2.out _ _ (by rw [← hv]; exact HP.out.2.1)) ?_
        rw [HV.out.2]
        repeat' (first | exact tf0 ‹_› | exact tf1 ‹_› | exact False.elim ‹_› | (with_reducible refine Al.intro ?_; intro pb hpb; (try simp only [hupd_none'] at hpb); (repeat rcases hpb with ⟨⟨hpx, hpy⟩, hpb⟩)) | with_reducible refine need ?_ | ((with_reducible first | refine frk0 ?_ ?_ | refine frk1 ?_ ?_ | refine frk2 ?_ ?_ | refine frk3 ?_ ?_ | refine frk4 ?_ ?_ | refine frk5 ?_ ?_ | refine frk6 ?_ ?_ | refine frk7 ?_ ?_ | refine frk8 ?_ ?_ | refine frk9 ?_ ?_) <;> intro h <;> try (exfalso; omega)) | with_reducible refine quiet_and ?_ ?_ | with_reducible refine awp_drawnA mixed (by decide +kernel) ?_ | ((fail_if_success with_reducible refine stp ?_); simp -implicitDefEqProofs only [go_sem, Nat.reduceEqDiff, Nat.reduceAdd, Nat.reduceLT, Nat.reduceMul, Nat.reduceSub, Nat.reduceLeDiff, ↓reduceIte, reduceCtorEq, ↓String.reduceEq, String.reduceNe, Int.reduceToNat, Int.reduceLT, Int.reduceLE, Int.reduceGT, Int.reduceGE, Int.reduceEq, Int.reduceNe, Int.reduceBEq, Int.reduceBNe, Int.reduceAdd, Int.reduceSub, Int.reduceMul, Int.reduceNeg,  *]))
        refine CallWP.to (pright_spec G (0, 0, 0, 0, 0, 0, 0) _) ?_
        rw [show rightS (0, 0, 0, 0, 0, 0, 0) = 10 by decide]
        repeat' (first | exact tf0 ‹_› | exact tf1 ‹_› | exact False.elim ‹_› | (with_reducible refine Al.intro ?_; intro pb hpb; (try simp only [hupd_none'] at hpb); (repeat rcases hpb with ⟨⟨hpx, hpy⟩, hpb⟩)) | with_reducible refine need ?_ | ((with_reducible first | refine frk0 ?_ ?_ | refine frk1 ?_ ?_ | refine frk2 ?_ ?_ | refine frk3 ?_ ?_ | refine frk4 ?_ ?_ | refine frk5 ?_ ?_ | refine frk6 ?_ ?_ | refine frk7 ?_ ?_ | refine frk8 ?_ ?_ | refine frk9 ?_ ?_) <;> intro h <;> try (exfalso; omega)) | with_reducible refine quiet_and ?_ ?_ | with_reducible refine awp_drawnA mixed (by decide +kernel) ?_ | ((fail_if_success with_reducible refine stp ?_); simp -implicitDefEqProofs only [go_sem, Nat.reduceEqDiff, Nat.reduceAdd, Nat.reduceLT, Nat.reduceMul, Nat.reduceSub, Nat.reduceLeDiff, ↓reduceIte, reduceCtorEq, ↓String.reduceEq, String.reduceNe, Int.reduceToNat, Int.reduceLT, Int.reduceLE, Int.reduceGT, Int.reduceGE, Int.reduceEq, Int.reduceNe, Int.reduceBEq, Int.reduceBNe, Int.reduceAdd, Int.reduceSub, Int.reduceMul, Int.reduceNeg,  *]))
        exact ⟨m, HP.out.2.2, rfl, rfl⟩)
end Go.Proofs.YtmifapnmlhchlaaDoor
