/- Streams of another class count for nothing but their longest frame. -/
import Derived.Test.YtmifapnmlhchlaaDoorY32
set_option linter.all false
namespace Go.Proofs.YtmifapnmlhchlaaDoor
open Go Go.Proofs.YtmifapnmlhchlaaDoor.Ab
open Go.Proofs (Tryd.prog)
set_option maxRecDepth 100000
theorem loadC_few (C : List Stm) : loadC (fewN C 6) = loadF (fewN C 6) := by unfold loadC; rw [if_pos (few_rightC C 1 (by decide) (by decide))]
theorem loadC_edfs (C : List Stm) : loadC (edfs (fewN C 6)) = loadF (fewN C 6) := by unfold loadC; rw [if_pos (rightC_sub (few_rightC C 1 (by decide) (by decide)) (edfs_sub _)), loadF_edfs]
set_option maxHeartbeats 4000000 in
theorem demandOthers_spec (G : Nat → AVal) (hG : DivOK G) (C : List Stm) (hl : C.length < 9223372036854775808) (sp ln : Int) (hsp : 0 ≤ sp ∧ sp ≤ 65535) (hln : 0 ≤ ln ∧ ln ≤ 255) (m : Heap) :
    CallWP Tryd.prog G 8 [.list 7 (C.map encS), .int .u16 sp, .int .u8 ln] m fun v m' => v = .bool true ∧ m' = m := by
  have HB := Hid.mk (And.intro hsp hln)
  have HL := Hid.mk (And.intro hG hl)
  obtain ⟨r2, e2⟩ : ∃ r, ln.tmod 100 = r := ⟨_, rfl⟩
  have b2 : 0 ≤ r2 ∧ r2 < 100 := by rw [← e2]; exact ⟨Int.tmod_nonneg _ hln.1, Int.tmod_lt_of_pos _ (by decide)⟩
  have w1 : IntKind.i64.wrap sp = sp := wrap_i64 (by omega) (by omega)
  have w2 : IntKind.i64.wrap (sp + 1) = sp + 1 := wrap_i64 (by omega) (by omega)
  have w6 : IntKind.i64.wrap ln = ln := wrap_i64 (by omega) (by omega)
  have w7 : IntKind.i64.wrap r2 = r2 := wrap_i64 (by omega) (by omega)
  have w8 : IntKind.i64.wrap (r2 + 1) = r2 + 1 := wrap_i64 (by omega) (by omega)
  have w9 : imn (sp + 1) 65536 = sp + 1 := by unfold imn; split <;> omega
  have HN := Hid.mk (And.intro hsp b2)
  clear hsp hln b2 hG hl
  refine callWP_body Tryd.func8 rfl (N := 68) rfl (rs := [.tmp 6]) rfl en_8 (of_decide_eq_true rfl) ?_
  repeat' (first | exact tf0 ‹_› | exact tf1 ‹_› | exact False.elim ‹_› | (with_reducible refine Al.intro ?_; intro pb hpb; (try simp only [hupd_none'] at hpb); (repeat rcases hpb with ⟨⟨hpx, hpy⟩, hpb⟩)) | with_reducible refine need ?_ | ((with_reducible first | refine frk0 ?_ ?_ | refine frk1 ?_ ?_ | refine frk2 ?_ ?_ | refine frk3 ?_ ?_ | refine frk4 ?_ ?_ | refine frk5 ?_ ?_ | refine frk6 ?_ ?_ | refine frk7 ?_ ?_ | refine frk8 ?_ ?_ | refine frk9 ?_ ?_) <;> intro h <;> try (exfalso; omega)) | with_reducible refine quiet_and ?_ ?_ | with_reducible refine awp_drawnA mixed (by decide +kernel) ?_ | ((fail_if_success with_reducible refine stp ?_); simp -implicitDefEqProofs only [go_sem, Nat.reduceEqDiff, Nat.reduceAdd, Nat.reduceLT, Nat.reduceMul, Nat.reduceSub, Nat.reduceLeDiff, ↓reduceIte, reduceCtorEq, ↓String.reduceEq, String.reduceNe, Int.reduceToNat, Int.reduceLT, Int.reduceLE, Int.reduceGT, Int.reduceGE, Int.reduceEq, Int.reduceNe, Int.reduceBEq, Int.reduceBNe, Int.reduceAdd, Int.reduceSub, Int.reduceMul, Int.reduceNeg,  *]))
  refine few_spec G C HL.out.2 m _ (fun v m1 hs hs1 hf => ?_)
  obtain ⟨S, hS⟩ : ∃ S, fewN C 6 = S := ⟨_, rfl⟩
  rw [hS] at hs
  have hSl : S.length ≤ 6 := by rw [← hS, few_len]; omega
  have q1 := demC_few C (sp + 1) (r2 + 1) (by have := HN.out; omega) (by have := HN.out; omega) (by have := HN.out; omega) (by have := HN.out; omega)
  have q2 := demC_fsub C (edfs (fewN C 6)) (sp + 1) (r2 + 1) (by have := HN.out; omega) (by have := HN.out; omega) (by have := HN.out; omega) (by have := HN.out; omega) (edfs_sub _)
  rw [demF_edfs, ← q1] at q2
  have q3 := (loadC_edfs C).trans (loadC_few C).symm
  have q4 := blk_sub (C := fewN C 6) (D := edfs (fewN C 6)) (fun s hs => (edfs_sub _).subset hs)
  rw [hS] at q2 q3 q4
  have HQ := Hid.mk (And.intro q2 (And.intro q3 q4))
  obtain ⟨LL, hLL⟩ : ∃ LL, LL = S.length := ⟨_, rfl⟩
  obtain ⟨b, pre, post, N, cap, hw⟩ := RdS.ways (.inl hs) hLL
  have HS := Hid.mk (And.intro hs (And.intro hs1 (And.intro hLL hSl)))
  have hL6 : LL ≤ 6 := by omega
  have ll : (S.map encS).length = LL := by rw [List.length_map]; exact hLL.symm
  clear q1 q2 q3 q4 hs hs1 hf hS hSl hLL
  rcases hw with ⟨hv, hz⟩ | ⟨hv, hb⟩ | hv
  all_goals (
    rw [hv]
    repeat' (first | exact tf0 ‹_› | exact tf1 ‹_› | exact False.elim ‹_› | (with_reducible refine Al.intro ?_; intro pb hpb; (try simp only [hupd_none'] at hpb); (repeat rcases hpb with ⟨⟨hpx, hpy⟩, hpb⟩)) | with_reducible refine need ?_ | ((with_reducible first | refine frk0 ?_ ?_ | refine frk1 ?_ ?_ | refine frk2 ?_ ?_ | refine frk3 ?_ ?_ | refine frk4 ?_ ?_ | refine frk5 ?_ ?_ | refine frk6 ?_ ?_ | refine frk7 ?_ ?_ | refine frk8 ?_ ?_ | refine frk9 ?_ ?_) <;> intro h <;> try (exfalso; omega)) | with_reducible refine quiet_and ?_ ?_ | with_reducible refine awp_drawnA mixed (by decide +kernel) ?_ | ((fail_if_success with_reducible refine stp ?_); simp -implicitDefEqProofs only [go_sem, Nat.reduceEqDiff, Nat.reduceAdd, Nat.reduceLT, Nat.reduceMul, Nat.reduceSub, Nat.reduceLeDiff, ↓reduceIte, reduceCtorEq, ↓String.reduceEq, String.reduceNe, Int.reduceToNat, Int.reduceLT, Int.reduceLE, Int.reduceGT, Int.reduceGE, Int.reduceEq, Int.reduceNe, Int.reduceBEq, Int.reduceBNe, Int.reduceAdd, Int.reduceSub, Int.reduceMul, Int.reduceNeg,  *]))
    refine awp_loopP 0 (fun ts m' => ∃ v8 : AVal, Hid (SlM encSc 7 (edfs S) v8 m' ∧ Sub m1 m' ∧ ∀ x, bOf v8 = some x → m1 x = none) ∧ ts 1 = .int .u16 sp ∧ ts 2 = .int .u8 ln ∧ ts 7 = v ∧ ts 8 = v8)
      (fun k ts m' => ∃ (v8 : AVal) (i : Nat), Hid (k = LL - i ∧ i ≤ LL ∧ SlM encSc 7 (edfs (S.take i)) v8 m' ∧ Sub m1 m' ∧ ∀ x, bOf v8 = some x → m1 x = none) ∧ ts 1 = .int .u16 sp ∧ ts 2 = .int .u8 ln ∧ ts 7 = v ∧ ts 8 = v8 ∧ ts 9 = .int .i64 (i : Nat)) LL
      ⟨.nils, 0, .mk ⟨rfl, Nat.zero_le _, .inl ⟨rfl, rfl⟩, Sub.refl _, by simp [bOf]⟩, ttt, ttt, (by first | (simp only [upd, put, Nat.reduceEqDiff, ↓reduceIte, hv]; done) | (simp [upd, put, hv]; done) | rfl | (simp [upd, put, hv]; rfl)), ttt, ttt⟩ ?_ ?_
    · rintro k ts m2 ⟨v8, i, H, t1, t2, t7, t8, t9⟩
      have hf8 := H.out.2.2.1.slv
      by_cases hi : i < LL
      · have lt : (i : Int) < (LL : Int) := by omega
        have hiS : i < S.length := by have := HS.out.2.2.1; omega
        obtain ⟨x, hx⟩ : ∃ x, S.getD i default = x := ⟨_, rfl⟩
        have g0 := sm_at S pre post i hiS x hx
        have g1 := sm_cell S pre post i hiS x hx 2 (by decide)
        rw [show (encSc x).getD 2 .undef = .int .i64 x.2.2.1 from rfl] at g1
        have g2 := sm_lst S i hiS x hx
        have l1 := sm_len S pre post i hiS
        have w3 : IntKind.i64.wrap ((i : Int) + 1) = ((i + 1 : Nat) : Int) := by rw [wrap_i64 (by omega) (by omega)]; omega
        have hst := edfs_take S i hiS
        rw [hx] at hst
        have hlen : (edfs (S.take i)).length ≤ 6 := by have := (edfs_sub (S.take i)).length_le; rw [List.length_take] at this; omega
        have HX := Hid.mk (And.intro hst hlen)
        try (have hb2 := H.out.2.2.2.1 _ _ hb)
        clear hx hiS hst hlen
        by_cases hc : x.2.2.1 = 1
        · have hc2 : (x.2.2.1 == 1) = true := by simpa using hc
          have HC := Hid.mk hc
          clear hc
          repeat' (first | exact tf0 ‹_› | exact tf1 ‹_› | exact False.elim ‹_› | (with_reducible refine Al.intro ?_; intro pb hpb; (try simp only [hupd_none'] at hpb); (repeat rcases hpb with ⟨⟨hpx, hpy⟩, hpb⟩)) | with_reducible refine need ?_ | ((with_reducible first | refine frk0 ?_ ?_ | refine frk1 ?_ ?_ | refine frk2 ?_ ?_ | refine frk3 ?_ ?_ | refine frk4 ?_ ?_ | refine frk5 ?_ ?_ | refine frk6 ?_ ?_ | refine frk7 ?_ ?_ | refine frk8 ?_ ?_ | refine frk9 ?_ ?_) <;> intro h <;> try (exfalso; omega)) | with_reducible refine quiet_and ?_ ?_ | with_reducible refine awp_drawnA mixed (by decide +kernel) ?_ | ((fail_if_success with_reducible refine stp ?_); simp -implicitDefEqProofs only [go_sem, Nat.reduceEqDiff, Nat.reduceAdd, Nat.reduceLT, Nat.reduceMul, Nat.reduceSub, Nat.reduceLeDiff, ↓reduceIte, reduceCtorEq, ↓String.reduceEq, String.reduceNe, Int.reduceToNat, Int.reduceLT, Int.reduceLE, Int.reduceGT, Int.reduceGE, Int.reduceEq, Int.reduceNe, Int.reduceBEq, Int.reduceBNe, Int.reduceAdd, Int.reduceSub, Int.reduceMul, Int.reduceNeg,  encSc, *]))
          all_goals (
            refine app1 (enc := encSc) (sz := 7) (C := edfs (S.take i)) (x := x) Tryd.underlying22 tk_30 eb_30 zl_30 (by decide) (by rw [Tryd.underlying22]; rfl) (by unfold isInt; rw [Tryd.underlying22]) encSc_len rfl ⟨7, by rw [hupd_at, if_pos rfl]⟩ (H.out.2.2.1.fresh hpb) (by have := HX.out.2; omega) (fun v2 m3 h1 h2 => ?_)
            obtain ⟨k1, k2⟩ := h2.sub (mb := m1) (H.out.2.2.2.1.fresh (H.out.2.2.2.1.gone hpb)) H.out.2.2.2.2
            have HZ := Hid.mk (And.intro h1 (And.intro k1 k2))
            clear h1 h2 k1 k2
            repeat' (first | exact tf0 ‹_› | exact tf1 ‹_› | exact False.elim ‹_› | (with_reducible refine Al.intro ?_; intro pb hpb; (try simp only [hupd_none'] at hpb); (repeat rcases hpb with ⟨⟨hpx, hpy⟩, hpb⟩)) | with_reducible refine need ?_ | ((with_reducible first | refine frk0 ?_ ?_ | refine frk1 ?_ ?_ | refine frk2 ?_ ?_ | refine frk3 ?_ ?_ | refine frk4 ?_ ?_ | refine frk5 ?_ ?_ | refine frk6 ?_ ?_ | refine frk7 ?_ ?_ | refine frk8 ?_ ?_ | refine frk9 ?_ ?_) <;> intro h <;> try (exfalso; omega)) | with_reducible refine quiet_and ?_ ?_ | with_reducible refine awp_drawnA mixed (by decide +kernel) ?_ | ((fail_if_success with_reducible refine stp ?_); simp -implicitDefEqProofs only [go_sem, Nat.reduceEqDiff, Nat.reduceAdd, Nat.reduceLT, Nat.reduceMul, Nat.reduceSub, Nat.reduceLeDiff, ↓reduceIte, reduceCtorEq, ↓String.reduceEq, String.reduceNe, Int.reduceToNat, Int.reduceLT, Int.reduceLE, Int.reduceGT, Int.reduceGE, Int.reduceEq, Int.reduceNe, Int.reduceBEq, Int.reduceBNe, Int.reduceAdd, Int.reduceSub, Int.reduceMul, Int.reduceNeg,  *]))
            exact Again.intro ⟨LL - (i + 1), by have := H.out.1; omega, _, Sub.refl _, v2, i + 1, .mk ⟨rfl, by omega, by rw [HX.out.1, if_pos HC.out]; exact HZ.out.1, HZ.out.2.1, HZ.out.2.2⟩, (by first | (simp only [upd, put, Nat.reduceEqDiff, ↓reduceIte, t1]; done) | (simp [upd, put, t1]; done) | rfl | (simp [upd, put, t1]; rfl)), (by first | (simp only [upd, put, Nat.reduceEqDiff, ↓reduceIte, t2]; done) | (simp [upd, put, t2]; done) | rfl | (simp [upd, put, t2]; rfl)), (by first | (simp only [upd, put, Nat.reduceEqDiff, ↓reduceIte, t7, hv]; done) | (simp [upd, put, t7, hv]; done) | rfl | (simp [upd, put, t7, hv]; rfl)), ttt, ttt⟩)
        · have hc2 : (x.2.2.1 == 1) = false := by simpa using hc
          have HC := Hid.mk hc
          clear hc
          repeat' (first | exact tf0 ‹_› | exact tf1 ‹_› | exact False.elim ‹_› | (with_reducible refine Al.intro ?_; intro pb hpb; (try simp only [hupd_none'] at hpb); (repeat rcases hpb with ⟨⟨hpx, hpy⟩, hpb⟩)) | with_reducible refine need ?_ | ((with_reducible first | refine frk0 ?_ ?_ | refine frk1 ?_ ?_ | refine frk2 ?_ ?_ | refine frk3 ?_ ?_ | refine frk4 ?_ ?_ | refine frk5 ?_ ?_ | refine frk6 ?_ ?_ | refine frk7 ?_ ?_ | refine frk8 ?_ ?_ | refine frk9 ?_ ?_) <;> intro h <;> try (exfalso; omega)) | with_reducible refine quiet_and ?_ ?_ | with_reducible refine awp_drawnA mixed (by decide +kernel) ?_ | ((fail_if_success with_reducible refine stp ?_); simp -implicitDefEqProofs only [go_sem, Nat.reduceEqDiff, Nat.reduceAdd, Nat.reduceLT, Nat.reduceMul, Nat.reduceSub, Nat.reduceLeDiff, ↓reduceIte, reduceCtorEq, ↓String.reduceEq, String.reduceNe, Int.reduceToNat, Int.reduceLT, Int.reduceLE, Int.reduceGT, Int.reduceGE, Int.reduceEq, Int.reduceNe, Int.reduceBEq, Int.reduceBNe, Int.reduceAdd, Int.reduceSub, Int.reduceMul, Int.reduceNeg,  encSc, *]))
          all_goals exact Again.intro ⟨LL - (i + 1), by have := H.out.1; omega, _, Sub.refl _, v8, i + 1, .mk ⟨rfl, by omega, by rw [HX.out.1, if_neg HC.out, List.append_nil]; exact H.out.2.2.1, H.out.2.2.2⟩, (by first | (simp only [upd, put, Nat.reduceEqDiff, ↓reduceIte, t1]; done) | (simp [upd, put, t1]; done) | rfl | (simp [upd, put, t1]; rfl)), (by first | (simp only [upd, put, Nat.reduceEqDiff, ↓reduceIte, t2]; done) | (simp [upd, put, t2]; done) | rfl | (simp [upd, put, t2]; rfl)), (by first | (simp only [upd, put, Nat.reduceEqDiff, ↓reduceIte, t7, hv]; done) | (simp [upd, put, t7, hv]; done) | rfl | (simp [upd, put, t7, hv]; rfl)), (by first | (simp only [upd, put, Nat.reduceEqDiff, ↓reduceIte, t8]; done) | (simp [upd, put, t8]; done) | rfl | (simp [upd, put, t8]; rfl)), ttt⟩
      · have lt : ¬ (i : Int) < (LL : Int) := by omega
        repeat' (first | exact tf0 ‹_› | exact tf1 ‹_› | exact False.elim ‹_› | (with_reducible refine Al.intro ?_; intro pb hpb; (try simp only [hupd_none'] at hpb); (repeat rcases hpb with ⟨⟨hpx, hpy⟩, hpb⟩)) | with_reducible refine need ?_ | ((with_reducible first | refine frk0 ?_ ?_ | refine frk1 ?_ ?_ | refine frk2 ?_ ?_ | refine frk3 ?_ ?_ | refine frk4 ?_ ?_ | refine frk5 ?_ ?_ | refine frk6 ?_ ?_ | refine frk7 ?_ ?_ | refine frk8 ?_ ?_ | refine frk9 ?_ ?_) <;> intro h <;> try (exfalso; omega)) | with_reducible refine quiet_and ?_ ?_ | with_reducible refine awp_drawnA mixed (by decide +kernel) ?_ | ((fail_if_success with_reducible refine stp ?_); simp -implicitDefEqProofs only [go_sem, Nat.reduceEqDiff, Nat.reduceAdd, Nat.reduceLT, Nat.reduceMul, Nat.reduceSub, Nat.reduceLeDiff, ↓reduceIte, reduceCtorEq, ↓String.reduceEq, String.reduceNe, Int.reduceToNat, Int.reduceLT, Int.reduceLE, Int.reduceGT, Int.reduceGE, Int.reduceEq, Int.reduceNe, Int.reduceBEq, Int.reduceBNe, Int.reduceAdd, Int.reduceSub, Int.reduceMul, Int.reduceNeg,  *]))
        exact Again.intro ⟨v8, .mk ⟨by have h := H.out.2.2.1; rwa [List.take_of_length_le (by have := HS.out.2.2.1; omega)] at h, H.out.2.2.2⟩, (by first | (simp only [upd, put, Nat.reduceEqDiff, ↓reduceIte, t1]; done) | (simp [upd, put, t1]; done) | rfl | (simp [upd, put, t1]; rfl)), (by first | (simp only [upd, put, Nat.reduceEqDiff, ↓reduceIte, t2]; done) | (simp [upd, put, t2]; done) | rfl | (simp [upd, put, t2]; rfl)), (by first | (simp only [upd, put, Nat.reduceEqDiff, ↓reduceIte, t7, hv]; done) | (simp [upd, put, t7, hv]; done) | rfl | (simp [upd, put, t7, hv]; rfl)), (by first | (simp only [upd, put, Nat.reduceEqDiff, ↓reduceIte, t8]; done) | (simp [upd, put, t8]; done) | rfl | (simp [upd, put, t8]; rfl))⟩
    · rintro ts m2 ⟨v8, H, t1, t2, t7, t8⟩
      repeat' (first | exact tf0 ‹_› | exact tf1 ‹_› | exact False.elim ‹_› | (with_reducible refine Al.intro ?_; intro pb hpb; (try simp only [hupd_none'] at hpb); (repeat rcases hpb with ⟨⟨hpx, hpy⟩, hpb⟩)) | with_reducible refine need ?_ | ((with_reducible first | refine frk0 ?_ ?_ | refine frk1 ?_ ?_ | refine frk2 ?_ ?_ | refine frk3 ?_ ?_ | refine frk4 ?_ ?_ | refine frk5 ?_ ?_ | refine frk6 ?_ ?_ | refine frk7 ?_ ?_ | refine frk8 ?_ ?_ | refine frk9 ?_ ?_) <;> intro h <;> try (exfalso; omega)) | with_reducible refine quiet_and ?_ ?_ | with_reducible refine awp_drawnA mixed (by decide +kernel) ?_ | ((fail_if_success with_reducible refine stp ?_); simp -implicitDefEqProofs only [go_sem, Nat.reduceEqDiff, Nat.reduceAdd, Nat.reduceLT, Nat.reduceMul, Nat.reduceSub, Nat.reduceLeDiff, ↓reduceIte, reduceCtorEq, ↓String.reduceEq, String.reduceNe, Int.reduceToNat, Int.reduceLT, Int.reduceLE, Int.reduceGT, Int.reduceGE, Int.reduceEq, Int.reduceNe, Int.reduceBEq, Int.reduceBNe, Int.reduceAdd, Int.reduceSub, Int.reduceMul, Int.reduceNeg,  *]))
      refine CallWP.to (live26_spec G HL.out.1 _) ?_
      have HR := Hid.mk (show RdS S v m2 from RdS.into (.inl HS.out.1) H.out.2.1)
      rw [hv] at HR
      have hel : (edfs S).length < 9223372036854775808 := by have := (edfs_sub S).length_le; have := HS.out.2.2.2; omega
      have HE8 := Hid.mk (And.intro hel (show RdS (edfs S) v8 m2 from .inl H.out.1))
      have hSl : Hid (S.length < 9223372036854775808) := .mk (by have := HS.out.2.2.2; omega)
      obtain ⟨d1, hd1⟩ : ∃ d, demC S (sp + 1) (r2 + 1) = d := ⟨_, rfl⟩
      obtain ⟨d2, hd2⟩ : ∃ d, loadC S = d := ⟨_, rfl⟩
      obtain ⟨d3, hd3⟩ : ∃ d, blkF (edfs S) = d := ⟨_, rfl⟩
      obtain ⟨d4, hd4⟩ : ∃ d, blkF S = d := ⟨_, rfl⟩
      have HV := Hid.mk (And.intro hd1 (And.intro (HQ.out.1.trans hd1) (And.intro hd2 (And.intro (HQ.out.2.1.trans hd2) (And.intro hd3 hd4)))))
      have g4 : d3 ≤ d4 := by rw [← hd3, ← hd4]; exact HQ.out.2.2
      clear hd1 hd2 hd3 hd4 hel
      repeat' (first | exact tf0 ‹_› | exact tf1 ‹_› | exact False.elim ‹_› | (with_reducible refine Al.intro ?_; intro pb hpb; (try simp only [hupd_none'] at hpb); (repeat rcases hpb with ⟨⟨hpx, hpy⟩, hpb⟩)) | with_reducible refine need ?_ | ((with_reducible first | refine frk0 ?_ ?_ | refine frk1 ?_ ?_ | refine frk2 ?_ ?_ | refine frk3 ?_ ?_ | refine frk4 ?_ ?_ | refine frk5 ?_ ?_ | refine frk6 ?_ ?_ | refine frk7 ?_ ?_ | refine frk8 ?_ ?_ | refine frk9 ?_ ?_) <;> intro h <;> try (exfalso; omega)) | with_reducible refine quiet_and ?_ ?_ | with_reducible refine awp_drawnA mixed (by decide +kernel) ?_ | ((fail_if_success with_reducible refine stp ?_); simp -implicitDefEqProofs only [go_sem, Nat.reduceEqDiff, Nat.reduceAdd, Nat.reduceLT, Nat.reduceMul, Nat.reduceSub, Nat.reduceLeDiff, ↓reduceIte, reduceCtorEq, ↓String.reduceEq, String.reduceNe, Int.reduceToNat, Int.reduceLT, Int.reduceLE, Int.reduceGT, Int.reduceGE, Int.reduceEq, Int.reduceNe, Int.reduceBEq, Int.reduceBNe, Int.reduceAdd, Int.reduceSub, Int.reduceMul, Int.reduceNeg,  *]))
      refine CallWP.to (pOf_spec G HL.out.1 S hSl.out _ _ _ _ HR.out) ?_
      rw [HV.out.1]
      repeat' (first | exact tf0 ‹_› | exact tf1 ‹_› | exact False.elim ‹_› | (with_reducible refine Al.intro ?_; intro pb hpb; (try simp only [hupd_none'] at hpb); (repeat rcases hpb with ⟨⟨hpx, hpy⟩, hpb⟩)) | with_reducible refine need ?_ | ((with_reducible first | refine frk0 ?_ ?_ | refine frk1 ?_ ?_ | refine frk2 ?_ ?_ | refine frk3 ?_ ?_ | refine frk4 ?_ ?_ | refine frk5 ?_ ?_ | refine frk6 ?_ ?_ | refine frk7 ?_ ?_ | refine frk8 ?_ ?_ | refine frk9 ?_ ?_) <;> intro h <;> try (exfalso; omega)) | with_reducible refine quiet_and ?_ ?_ | with_reducible refine awp_drawnA mixed (by decide +kernel) ?_ | ((fail_if_success with_reducible refine stp ?_); simp -implicitDefEqProofs only [go_sem, Nat.reduceEqDiff, Nat.reduceAdd, Nat.reduceLT, Nat.reduceMul, Nat.reduceSub, Nat.reduceLeDiff, ↓reduceIte, reduceCtorEq, ↓String.reduceEq, String.reduceNe, Int.reduceToNat, Int.reduceLT, Int.reduceLE, Int.reduceGT, Int.reduceGE, Int.reduceEq, Int.reduceNe, Int.reduceBEq, Int.reduceBNe, Int.reduceAdd, Int.reduceSub, Int.reduceMul, Int.reduceNeg,  *]))
      refine CallWP.to (pOf_spec G HL.out.1 (edfs S) HE8.out.1 _ _ _ _ HE8.out.2) ?_
      rw [HV.out.2.1]
      repeat' (first | exact tf0 ‹_› | exact tf1 ‹_› | exact False.elim ‹_› | (with_reducible refine Al.intro ?_; intro pb hpb; (try simp only [hupd_none'] at hpb); (repeat rcases hpb with ⟨⟨hpx, hpy⟩, hpb⟩)) | with_reducible refine need ?_ | ((with_reducible first | refine frk0 ?_ ?_ | refine frk1 ?_ ?_ | refine frk2 ?_ ?_ | refine frk3 ?_ ?_ | refine frk4 ?_ ?_ | refine frk5 ?_ ?_ | refine frk6 ?_ ?_ | refine frk7 ?_ ?_ | refine frk8 ?_ ?_ | refine frk9 ?_ ?_) <;> intro h <;> try (exfalso; omega)) | with_reducible refine quiet_and ?_ ?_ | with_reducible refine awp_drawnA mixed (by decide +kernel) ?_ | ((fail_if_success with_reducible refine stp ?_); simp -implicitDefEqProofs only [go_sem, Nat.reduceEqDiff, Nat.reduceAdd, Nat.reduceLT, Nat.reduceMul, Nat.reduceSub, Nat.reduceLeDiff, ↓reduceIte, reduceCtorEq, ↓String.reduceEq, String.reduceNe, Int.reduceToNat, Int.reduceLT, Int.reduceLE, Int.reduceGT, Int.reduceGE, Int.reduceEq, Int.reduceNe, Int.reduceBEq, Int.reduceBNe, Int.reduceAdd, Int.reduceSub, Int.reduceMul, Int.reduceNeg,  *]))
      refine CallWP.to (pload_spec G HL.out.1 S hSl.out _ _ HR.out) ?_
      rw [HV.out.2.2.1]
      repeat' (first | exact tf0 ‹_› | exact tf1 ‹_› | exact False.elim ‹_› | (with_reducible refine Al.intro ?_; intro pb hpb; (try simp only [hupd_none'] at hpb); (repeat rcases hpb with ⟨⟨hpx, hpy⟩, hpb⟩)) | with_reducible refine need ?_ | ((with_reducible first | refine frk0 ?_ ?_ | refine frk1 ?_ ?_ | refine frk2 ?_ ?_ | refine frk3 ?_ ?_ | refine frk4 ?_ ?_ | refine frk5 ?_ ?_ | refine frk6 ?_ ?_ | refine frk7 ?_ ?_ | refine frk8 ?_ ?_ | refine frk9 ?_ ?_) <;> intro h <;> try (exfalso; omega)) | with_reducible refine quiet_and ?_ ?_ | with_reducible refine awp_drawnA mixed (by decide +kernel) ?_ | ((fail_if_success with_reducible refine stp ?_); simp -implicitDefEqProofs only [go_sem, Nat.reduceEqDiff, Nat.reduceAdd, Nat.reduceLT, Nat.reduceMul, Nat.reduceSub, Nat.reduceLeDiff, ↓reduceIte, reduceCtorEq, ↓String.reduceEq, String.reduceNe, Int.reduceToNat, Int.reduceLT, Int.reduceLE, Int.reduceGT, Int.reduceGE, Int.reduceEq, Int.reduceNe, Int.reduceBEq, Int.reduceBNe, Int.reduceAdd, Int.reduceSub, Int.reduceMul, Int.reduceNeg,  *]))
      refine CallWP.to (pload_spec G HL.out.1 (edfs S) HE8.out.1 _ _ HE8.out.2) ?_
      rw [HV.out.2.2.2.1]
      repeat' (first | exact tf0 ‹_› | exact tf1 ‹_› | exact False.elim ‹_› | (with_reducible refine Al.intro ?_; intro pb hpb; (try simp only [hupd_none'] at hpb); (repeat rcases hpb with ⟨⟨hpx, hpy⟩, hpb⟩)) | with_reducible refine need ?_ | ((with_reducible first | refine frk0 ?_ ?_ | refine frk1 ?_ ?_ | refine frk2 ?_ ?_ | refine frk3 ?_ ?_ | refine frk4 ?_ ?_ | refine frk5 ?_ ?_ | refine frk6 ?_ ?_ | refine frk7 ?_ ?_ | refine frk8 ?_ ?_ | refine frk9 ?_ ?_) <;> intro h <;> try (exfalso; omega)) | with_reducible refine quiet_and ?_ ?_ | with_reducible refine awp_drawnA mixed (by decide +kernel) ?_ | ((fail_if_success with_reducible refine stp ?_); simp -implicitDefEqProofs only [go_sem, Nat.reduceEqDiff, Nat.reduceAdd, Nat.reduceLT, Nat.reduceMul, Nat.reduceSub, Nat.reduceLeDiff, ↓reduceIte, reduceCtorEq, ↓String.reduceEq, String.reduceNe, Int.reduceToNat, Int.reduceLT, Int.reduceLE, Int.reduceGT, Int.reduceGE, Int.reduceEq, Int.reduceNe, Int.reduceBEq, Int.reduceBNe, Int.reduceAdd, Int.reduceSub, Int.reduceMul, Int.reduceNeg,  *]))
      refine CallWP.to (pblock_spec G HL.out.1 (edfs S) HE8.out.1 _ _ HE8.out.2) ?_
      rw [HV.out.2.2.2.2.1]
      repeat' (first | exact tf0 ‹_› | exact tf1 ‹_› | exact False.elim ‹_› | (with_reducible refine Al.intro ?_; intro pb hpb; (try simp only [hupd_none'] at hpb); (repeat rcases hpb with ⟨⟨hpx, hpy⟩, hpb⟩)) | with_reducible refine need ?_ | ((with_reducible first | refine frk0 ?_ ?_ | refine frk1 ?_ ?_ | refine frk2 ?_ ?_ | refine frk3 ?_ ?_ | refine frk4 ?_ ?_ | refine frk5 ?_ ?_ | refine frk6 ?_ ?_ | refine frk7 ?_ ?_ | refine frk8 ?_ ?_ | refine frk9 ?_ ?_) <;> intro h <;> try (exfalso; omega)) | with_reducible refine quiet_and ?_ ?_ | with_reducible refine awp_drawnA mixed (by decide +kernel) ?_ | ((fail_if_success with_reducible refine stp ?_); simp -implicitDefEqProofs only [go_sem, Nat.reduceEqDiff, Nat.reduceAdd, Nat.reduceLT, Nat.reduceMul, Nat.reduceSub, Nat.reduceLeDiff, ↓reduceIte, reduceCtorEq, ↓String.reduceEq, String.reduceNe, Int.reduceToNat, Int.reduceLT, Int.reduceLE, Int.reduceGT, Int.reduceGE, Int.reduceEq, Int.reduceNe, Int.reduceBEq, Int.reduceBNe, Int.reduceAdd, Int.reduceSub, Int.reduceMul, Int.reduceNeg,  *]))
      refine CallWP.to (pblock_spec G HL.out.1 S hSl.out _ _ HR.out) ?_
      rw [HV.out.2.2.2.2.2]
      repeat' (first | exact tf0 ‹_› | exact tf1 ‹_› | exact False.elim ‹_› | (with_reducible refine Al.intro ?_; intro pb hpb; (try simp only [hupd_none'] at hpb); (repeat rcases hpb with ⟨⟨hpx, hpy⟩, hpb⟩)) | with_reducible refine need ?_ | ((with_reducible first | refine frk0 ?_ ?_ | refine frk1 ?_ ?_ | refine frk2 ?_ ?_ | refine frk3 ?_ ?_ | refine frk4 ?_ ?_ | refine frk5 ?_ ?_ | refine frk6 ?_ ?_ | refine frk7 ?_ ?_ | refine frk8 ?_ ?_ | refine frk9 ?_ ?_) <;> intro h <;> try (exfalso; omega)) | with_reducible refine quiet_and ?_ ?_ | with_reducible refine awp_drawnA mixed (by decide +kernel) ?_ | ((fail_if_success with_reducible refine stp ?_); simp -implicitDefEqProofs only [go_sem, Nat.reduceEqDiff, Nat.reduceAdd, Nat.reduceLT, Nat.reduceMul, Nat.reduceSub, Nat.reduceLeDiff, ↓reduceIte, reduceCtorEq, ↓String.reduceEq, String.reduceNe, Int.reduceToNat, Int.reduceLT, Int.reduceLE, Int.reduceGT, Int.reduceGE, Int.reduceEq, Int.reduceNe, Int.reduceBEq, Int.reduceBNe, Int.reduceAdd, Int.reduceSub, Int.reduceMul, Int.reduceNeg,  *]))
      exact ⟨m, subTrans HS.out.2.1 H.out.2.1, rfl, rfl⟩)
end Go.Proofs.YtmifapnmlhchlaaDoor
