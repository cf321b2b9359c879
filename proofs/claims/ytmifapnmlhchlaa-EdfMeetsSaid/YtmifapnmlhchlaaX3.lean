/- Streams: whether all can be. -/
import Derived.Test.YtmifapnmlhchlaaX2
set_option linter.all false
namespace Go.Proofs.Ytmifapnmlhchlaa
open Go Go.Proofs.Ytmifapnmlhchlaa.Ab
open Go.Proofs (Try.prog)
set_option maxRecDepth 100000
/-- May streams and a length be? -/
def rightC (C : List Stm) (n : Int) : Prop := C.length ≤ 64 ∧ (1 ≤ n ∧ n ≤ 1073741824) ∧ (∀ s ∈ C, rightS s = 0) ∧ (∀ i, i < C.length → (i : Int) ≤ findF C (C.getD i default).1) ∧ ∀ s ∈ C, s.2.2.1 = 1 → n ≤ s.2.2.2.2.1
theorem take_one (C : List Stm) (i : Nat) (h : i < C.length) : C.take (i + 1) = C.take i ++ [C.getD i default] := by
  rw [List.take_add_one]; simp [List.getD_eq_getElem?_getD, h]
set_option maxHeartbeats 4000000 in
theorem check25_spec (G : Nat → AVal) (C : List Stm) (hl : C.length < 9223372036854775808) (n : Int) (v : AVal) (m : Heap) (hs : RdS C v m) (K : AVal → Heap → Prop)
    (hK : ∀ k e : Int, (e = 0 ↔ rightC C n) → K (.tuple [.int .i64 k, .int .i64 e]) m) : CallWP Try.prog G 52 [v, .int .i64 n] m K := by
  have HK := Hid.mk hK
  clear hK
  have HS := Hid.mk hs
  obtain ⟨L, hL⟩ : ∃ L, L = C.length := ⟨_, rfl⟩
  have H0 := Hid.mk hL
  have ll : (C.map encS).length = L := by rw [List.length_map]; exact hL.symm
  obtain ⟨b, pre, post, N, cap, hw⟩ := hs.ways hL
  have lL : L < 9223372036854775808 := by omega
  clear hs hL hl
  rcases hw with ⟨hv, hz⟩ | ⟨hv, hb⟩ | hv
  all_goals (
    by_cases h64 : L ≤ 64
    · have n0 : ¬ (64 : Int) < (L : Int) := by omega
      by_cases hn1 : 1 ≤ n
      · by_cases hn2 : n ≤ 1073741824
        · have n1 : ¬ n < 1 := by omega
          have n2 : ¬ 1073741824 < n := by omega
          have HN := Hid.mk (And.intro hn1 hn2)
          clear hn1 hn2
          refine callWP_body Try.func52 rfl (N := 74) rfl (rs := [.tmp 4, .tmp 5]) rfl en_52 (of_decide_eq_true rfl) ?_
          repeat' (first | exact tf0 ‹_› | exact tf1 ‹_› | exact False.elim ‹_› | (with_reducible refine Al.intro ?_; intro pb hpb; (try simp only [hupd_none'] at hpb); (repeat rcases hpb with ⟨⟨hpx, hpy⟩, hpb⟩)) | with_reducible refine need ?_ | ((with_reducible first | refine frk0 ?_ ?_ | refine frk1 ?_ ?_ | refine frk2 ?_ ?_ | refine frk3 ?_ ?_ | refine frk4 ?_ ?_ | refine frk5 ?_ ?_ | refine frk6 ?_ ?_ | refine frk7 ?_ ?_ | refine frk8 ?_ ?_ | refine frk9 ?_ ?_) <;> intro h <;> try (exfalso; omega)) | with_reducible refine quiet_and ?_ ?_ | with_reducible refine awp_drawnA mixed (by decide +kernel) ?_ | ((fail_if_success with_reducible refine stp ?_); simp -implicitDefEqProofs only [go_sem, Nat.reduceEqDiff, Nat.reduceAdd, Nat.reduceLT, Nat.reduceMul, Nat.reduceSub, Nat.reduceLeDiff, ↓reduceIte, reduceCtorEq, ↓String.reduceEq, String.reduceNe, Int.reduceToNat, Int.reduceLT, Int.reduceLE, Int.reduceGT, Int.reduceGE, Int.reduceEq, Int.reduceNe, Int.reduceBEq, Int.reduceBNe, Int.reduceAdd, Int.reduceSub, Int.reduceMul, Int.reduceNeg,  *]))
          refine awp_loopP 0 (fun ts m' => Hid (∀ s ∈ C, rightS s = 0) ∧ ts 0 = v ∧ ts 1 = .int .i64 n ∧ m' = m) (fun k ts m' => ∃ i : Nat, Hid (k = L - i ∧ i ≤ L ∧ ∀ s ∈ C.take i, rightS s = 0) ∧ ts 0 = v ∧ ts 1 = .int .i64 n ∧ ts 6 = .int .i64 (i : Nat) ∧ m' = m) L ⟨0, .mk ⟨rfl, Nat.zero_le _, by simp⟩, by simp [upd, hv], ttt, ttt, rfl⟩ ?_ ?_
          · rintro k ts m2 ⟨i, H, t0, t1, t6, hm2⟩
            subst m2
            by_cases hi : i < L
            · have lt : (i : Int) < (L : Int) := by omega
              have hiC : i < C.length := by have := H0.out; omega
              obtain ⟨x, hx⟩ : ∃ x, C.getD i default = x := ⟨_, rfl⟩
              have g1 := sm_at C pre post i hiC x hx
              have g2 := sm_lst C i hiC x hx
              have l1 := sm_len C pre post i hiC
              have w1 : IntKind.i64.wrap ((i : Int) + 1) = ((i + 1 : Nat) : Int) := by rw [wrap_i64 (by omega) (by omega)]; omega
              have hCt := take_one C i hiC
              have hxm : x ∈ C := by rw [← hx]; exact getD_mem C i hiC
              have HX := Hid.mk (And.intro hx (And.intro hCt hxm))
              obtain ⟨e, he⟩ : ∃ e, e = rightS x := ⟨_, rfl⟩
              have HE := Hid.mk he
              clear hx hCt hiC hxm he
              repeat' (first | exact tf0 ‹_› | exact tf1 ‹_› | exact False.elim ‹_› | (with_reducible refine Al.intro ?_; intro pb hpb; (try simp only [hupd_none'] at hpb); (repeat rcases hpb with ⟨⟨hpx, hpy⟩, hpb⟩)) | with_reducible refine need ?_ | ((with_reducible first | refine frk0 ?_ ?_ | refine frk1 ?_ ?_ | refine frk2 ?_ ?_ | refine frk3 ?_ ?_ | refine frk4 ?_ ?_ | refine frk5 ?_ ?_ | refine frk6 ?_ ?_ | refine frk7 ?_ ?_ | refine frk8 ?_ ?_ | refine frk9 ?_ ?_) <;> intro h <;> try (exfalso; omega)) | with_reducible refine quiet_and ?_ ?_ | with_reducible refine awp_drawnA mixed (by decide +kernel) ?_ | ((fail_if_success with_reducible refine stp ?_); simp -implicitDefEqProofs only [go_sem, Nat.reduceEqDiff, Nat.reduceAdd, Nat.reduceLT, Nat.reduceMul, Nat.reduceSub, Nat.reduceLeDiff, ↓reduceIte, reduceCtorEq, ↓String.reduceEq, String.reduceNe, Int.reduceToNat, Int.reduceLT, Int.reduceLE, Int.reduceGT, Int.reduceGE, Int.reduceEq, Int.reduceNe, Int.reduceBEq, Int.reduceBNe, Int.reduceAdd, Int.reduceSub, Int.reduceMul, Int.reduceNeg,  *]))
              all_goals (
                refine CallWP.to (sright_spec G x _) ?_
                rw [← HE.out]
                by_cases he0 : e = 0
                · repeat' (first | exact tf0 ‹_› | exact tf1 ‹_› | exact False.elim ‹_› | (with_reducible refine Al.intro ?_; intro pb hpb; (try simp only [hupd_none'] at hpb); (repeat rcases hpb with ⟨⟨hpx, hpy⟩, hpb⟩)) | with_reducible refine need ?_ | ((with_reducible first | refine frk0 ?_ ?_ | refine frk1 ?_ ?_ | refine frk2 ?_ ?_ | refine frk3 ?_ ?_ | refine frk4 ?_ ?_ | refine frk5 ?_ ?_ | refine frk6 ?_ ?_ | refine frk7 ?_ ?_ | refine frk8 ?_ ?_ | refine frk9 ?_ ?_) <;> intro h <;> try (exfalso; omega)) | with_reducible refine quiet_and ?_ ?_ | with_reducible refine awp_drawnA mixed (by decide +kernel) ?_ | ((fail_if_success with_reducible refine stp ?_); simp -implicitDefEqProofs only [go_sem, Nat.reduceEqDiff, Nat.reduceAdd, Nat.reduceLT, Nat.reduceMul, Nat.reduceSub, Nat.reduceLeDiff, ↓reduceIte, reduceCtorEq, ↓String.reduceEq, String.reduceNe, Int.reduceToNat, Int.reduceLT, Int.reduceLE, Int.reduceGT, Int.reduceGE, Int.reduceEq, Int.reduceNe, Int.reduceBEq, Int.reduceBNe, Int.reduceAdd, Int.reduceSub, Int.reduceMul, Int.reduceNeg,  *]))
                  exact Again.intro ⟨L - (i + 1), by have := H.out; omega, _, Sub.refl _, i + 1, .mk ⟨rfl, by omega, fun s hs => by
                    rw [HX.out.2.1, HX.out.1] at hs
                    rcases List.mem_append.1 hs with hs | hs
                    · exact H.out.2.2 s hs
                    · rw [List.mem_singleton.1 hs, ← HE.out]; exact he0⟩, (by first | (simp only [upd, put, Nat.reduceEqDiff, ↓reduceIte, t0, hv]; done) | (simp [upd, put, t0, hv]; done) | rfl | (simp [upd, put, t0, hv]; rfl)), (by first | (simp only [upd, put, Nat.reduceEqDiff, ↓reduceIte, t1]; done) | (simp [upd, put, t1]; done) | rfl | (simp [upd, put, t1]; rfl)), ttt, rfl⟩
                · repeat' (first | exact tf0 ‹_› | exact tf1 ‹_› | exact False.elim ‹_› | (with_reducible refine Al.intro ?_; intro pb hpb; (try simp only [hupd_none'] at hpb); (repeat rcases hpb with ⟨⟨hpx, hpy⟩, hpb⟩)) | with_reducible refine need ?_ | ((with_reducible first | refine frk0 ?_ ?_ | refine frk1 ?_ ?_ | refine frk2 ?_ ?_ | refine frk3 ?_ ?_ | refine frk4 ?_ ?_ | refine frk5 ?_ ?_ | refine frk6 ?_ ?_ | refine frk7 ?_ ?_ | refine frk8 ?_ ?_ | refine frk9 ?_ ?_) <;> intro h <;> try (exfalso; omega)) | with_reducible refine quiet_and ?_ ?_ | with_reducible refine awp_drawnA mixed (by decide +kernel) ?_ | ((fail_if_success with_reducible refine stp ?_); simp -implicitDefEqProofs only [go_sem, Nat.reduceEqDiff, Nat.reduceAdd, Nat.reduceLT, Nat.reduceMul, Nat.reduceSub, Nat.reduceLeDiff, ↓reduceIte, reduceCtorEq, ↓String.reduceEq, String.reduceNe, Int.reduceToNat, Int.reduceLT, Int.reduceLE, Int.reduceGT, Int.reduceGE, Int.reduceEq, Int.reduceNe, Int.reduceBEq, Int.reduceBNe, Int.reduceAdd, Int.reduceSub, Int.reduceMul, Int.reduceNeg,  *]))
                  refine ⟨_, Sub.refl _, ?_⟩
                  simp only [upd, put, Nat.reduceEqDiff, ↓reduceIte, t6]
                  exact HK.out (i : Int) e ⟨fun h => absurd h he0, fun h => absurd (h.2.2.1 x HX.out.2.2) (by rw [← HE.out]; exact he0)⟩)
            · have lt : ¬ (i : Int) < (L : Int) := by omega
              repeat' (first | exact tf0 ‹_› | exact tf1 ‹_› | exact False.elim ‹_› | (with_reducible refine Al.intro ?_; intro pb hpb; (try simp only [hupd_none'] at hpb); (repeat rcases hpb with ⟨⟨hpx, hpy⟩, hpb⟩)) | with_reducible refine need ?_ | ((with_reducible first | refine frk0 ?_ ?_ | refine frk1 ?_ ?_ | refine frk2 ?_ ?_ | refine frk3 ?_ ?_ | refine frk4 ?_ ?_ | refine frk5 ?_ ?_ | refine frk6 ?_ ?_ | refine frk7 ?_ ?_ | refine frk8 ?_ ?_ | refine frk9 ?_ ?_) <;> intro h <;> try (exfalso; omega)) | with_reducible refine quiet_and ?_ ?_ | with_reducible refine awp_drawnA mixed (by decide +kernel) ?_ | ((fail_if_success with_reducible refine stp ?_); simp -implicitDefEqProofs only [go_sem, Nat.reduceEqDiff, Nat.reduceAdd, Nat.reduceLT, Nat.reduceMul, Nat.reduceSub, Nat.reduceLeDiff, ↓reduceIte, reduceCtorEq, ↓String.reduceEq, String.reduceNe, Int.reduceToNat, Int.reduceLT, Int.reduceLE, Int.reduceGT, Int.reduceGE, Int.reduceEq, Int.reduceNe, Int.reduceBEq, Int.reduceBNe, Int.reduceAdd, Int.reduceSub, Int.reduceMul, Int.reduceNeg,  *]))
              exact Again.intro ⟨.mk (by have h := H.out.2.2; rwa [List.take_of_length_le (by have := H0.out; omega)] at h), (by first | (simp only [upd, put, Nat.reduceEqDiff, ↓reduceIte, t0, hv]; done) | (simp [upd, put, t0, hv]; done) | rfl | (simp [upd, put, t0, hv]; rfl)), (by first | (simp only [upd, put, Nat.reduceEqDiff, ↓reduceIte, t1]; done) | (simp [upd, put, t1]; done) | rfl | (simp [upd, put, t1]; rfl)), rfl⟩
          · rintro ts m2 ⟨HA, t0, t1, hm2⟩
            subst m2
            repeat' (first | exact tf0 ‹_› | exact tf1 ‹_› | exact False.elim ‹_› | (with_reducible refine Al.intro ?_; intro pb hpb; (try simp only [hupd_none'] at hpb); (repeat rcases hpb with ⟨⟨hpx, hpy⟩, hpb⟩)) | with_reducible refine need ?_ | ((with_reducible first | refine frk0 ?_ ?_ | refine frk1 ?_ ?_ | refine frk2 ?_ ?_ | refine frk3 ?_ ?_ | refine frk4 ?_ ?_ | refine frk5 ?_ ?_ | refine frk6 ?_ ?_ | refine frk7 ?_ ?_ | refine frk8 ?_ ?_ | refine frk9 ?_ ?_) <;> intro h <;> try (exfalso; omega)) | with_reducible refine quiet_and ?_ ?_ | with_reducible refine awp_drawnA mixed (by decide +kernel) ?_ | ((fail_if_success with_reducible refine stp ?_); simp -implicitDefEqProofs only [go_sem, Nat.reduceEqDiff, Nat.reduceAdd, Nat.reduceLT, Nat.reduceMul, Nat.reduceSub, Nat.reduceLeDiff, ↓reduceIte, reduceCtorEq, ↓String.reduceEq, String.reduceNe, Int.reduceToNat, Int.reduceLT, Int.reduceLE, Int.reduceGT, Int.reduceGE, Int.reduceEq, Int.reduceNe, Int.reduceBEq, Int.reduceBNe, Int.reduceAdd, Int.reduceSub, Int.reduceMul, Int.reduceNeg,  *]))
            refine awp_loopP 2 (fun ts m' => Hid (∀ i, i < C.length → (i : Int) ≤ findF C (C.getD i default).1) ∧ ts 0 = v ∧ ts 1 = .int .i64 n ∧ m' = m) (fun k ts m' => ∃ i : Nat, Hid (k = L - i ∧ i ≤ L ∧ ∀ j, j < i → (j : Int) ≤ findF C (C.getD j default).1) ∧ ts 0 = v ∧ ts 1 = .int .i64 n ∧ ts 8 = .int .i64 (i : Nat) ∧ m' = m) L ⟨0, .mk ⟨rfl, Nat.zero_le _, fun j hj => absurd hj (by omega)⟩, by simp [upd, t0, hv], by simp [upd, t1], ttt, rfl⟩ ?_ ?_
            · clear t0 t1
              rintro k ts m2 ⟨i, H, t0, t1, t8, hm2⟩
              subst m2
              by_cases hi : i < L
              · have lt : (i : Int) < (L : Int) := by omega
                have hiC : i < C.length := by have := H0.out; omega
                obtain ⟨x, hx⟩ : ∃ x, C.getD i default = x := ⟨_, rfl⟩
                have g1 := sm_cell C pre post i hiC x hx 0 (by decide)
                rw [Nat.add_zero, show (encSc x).getD 0 .undef = .int .i64 x.1 from rfl] at g1
                have g2 := sm_lst C i hiC x hx
                have l1 := sm_len C pre post i hiC
                have w1 : IntKind.i64.wrap ((i : Int) + 1) = ((i + 1 : Nat) : Int) := by rw [wrap_i64 (by omega) (by omega)]; omega
                have HX := Hid.mk hx
                obtain ⟨f, hf⟩ : ∃ f, f = findF C x.1 := ⟨_, rfl⟩
                have HF := Hid.mk hf
                clear hx hiC hf
                repeat' (first | exact tf0 ‹_› | exact tf1 ‹_› | exact False.elim ‹_› | (with_reducible refine Al.intro ?_; intro pb hpb; (try simp only [hupd_none'] at hpb); (repeat rcases hpb with ⟨⟨hpx, hpy⟩, hpb⟩)) | with_reducible refine need ?_ | ((with_reducible first | refine frk0 ?_ ?_ | refine frk1 ?_ ?_ | refine frk2 ?_ ?_ | refine frk3 ?_ ?_ | refine frk4 ?_ ?_ | refine frk5 ?_ ?_ | refine frk6 ?_ ?_ | refine frk7 ?_ ?_ | refine frk8 ?_ ?_ | refine frk9 ?_ ?_) <;> intro h <;> try (exfalso; omega)) | with_reducible refine quiet_and ?_ ?_ | with_reducible refine awp_drawnA mixed (by decide +kernel) ?_ | ((fail_if_success with_reducible refine stp ?_); simp -implicitDefEqProofs only [go_sem, Nat.reduceEqDiff, Nat.reduceAdd, Nat.reduceLT, Nat.reduceMul, Nat.reduceSub, Nat.reduceLeDiff, ↓reduceIte, reduceCtorEq, ↓String.reduceEq, String.reduceNe, Int.reduceToNat, Int.reduceLT, Int.reduceLE, Int.reduceGT, Int.reduceGE, Int.reduceEq, Int.reduceNe, Int.reduceBEq, Int.reduceBNe, Int.reduceAdd, Int.reduceSub, Int.reduceMul, Int.reduceNeg,  encSc, *]))
                all_goals (
                  rw [← hv]
                  refine CallWP.to (find_spec G C (by have := H0.out; omega) x.1 v m HS.out) ?_
                  rw [← HF.out]
                  by_cases hq : f < (i : Int)
                  · repeat' (first | exact tf0 ‹_› | exact tf1 ‹_› | exact False.elim ‹_› | (with_reducible refine Al.intro ?_; intro pb hpb; (try simp only [hupd_none'] at hpb); (repeat rcases hpb with ⟨⟨hpx, hpy⟩, hpb⟩)) | with_reducible refine need ?_ | ((with_reducible first | refine frk0 ?_ ?_ | refine frk1 ?_ ?_ | refine frk2 ?_ ?_ | refine frk3 ?_ ?_ | refine frk4 ?_ ?_ | refine frk5 ?_ ?_ | refine frk6 ?_ ?_ | refine frk7 ?_ ?_ | refine frk8 ?_ ?_ | refine frk9 ?_ ?_) <;> intro h <;> try (exfalso; omega)) | with_reducible refine quiet_and ?_ ?_ | with_reducible refine awp_drawnA mixed (by decide +kernel) ?_ | ((fail_if_success with_reducible refine stp ?_); simp -implicitDefEqProofs only [go_sem, Nat.reduceEqDiff, Nat.reduceAdd, Nat.reduceLT, Nat.reduceMul, Nat.reduceSub, Nat.reduceLeDiff, ↓reduceIte, reduceCtorEq, ↓String.reduceEq, String.reduceNe, Int.reduceToNat, Int.reduceLT, Int.reduceLE, Int.reduceGT, Int.reduceGE, Int.reduceEq, Int.reduceNe, Int.reduceBEq, Int.reduceBNe, Int.reduceAdd, Int.reduceSub, Int.reduceMul, Int.reduceNeg,  *]))
                    exact ⟨_, Sub.refl _, HK.out _ _ ⟨fun h => absurd h (by decide), fun h => absurd (h.2.2.2.1 i (by have := H0.out; omega)) (by rw [HX.out, ← HF.out]; omega)⟩⟩
                  · repeat' (first | exact tf0 ‹_› | exact tf1 ‹_› | exact False.elim ‹_› | (with_reducible refine Al.intro ?_; intro pb hpb; (try simp only [hupd_none'] at hpb); (repeat rcases hpb with ⟨⟨hpx, hpy⟩, hpb⟩)) | with_reducible refine need ?_ | ((with_reducible first | refine frk0 ?_ ?_ | refine frk1 ?_ ?_ | refine frk2 ?_ ?_ | refine frk3 ?_ ?_ | refine frk4 ?_ ?_ | refine frk5 ?_ ?_ | refine frk6 ?_ ?_ | refine frk7 ?_ ?_ | refine frk8 ?_ ?_ | refine frk9 ?_ ?_) <;> intro h <;> try (exfalso; omega)) | with_reducible refine quiet_and ?_ ?_ | with_reducible refine awp_drawnA mixed (by decide +kernel) ?_ | ((fail_if_success with_reducible refine stp ?_); simp -implicitDefEqProofs only [go_sem, Nat.reduceEqDiff, Nat.reduceAdd, Nat.reduceLT, Nat.reduceMul, Nat.reduceSub, Nat.reduceLeDiff, ↓reduceIte, reduceCtorEq, ↓String.reduceEq, String.reduceNe, Int.reduceToNat, Int.reduceLT, Int.reduceLE, Int.reduceGT, Int.reduceGE, Int.reduceEq, Int.reduceNe, Int.reduceBEq, Int.reduceBNe, Int.reduceAdd, Int.reduceSub, Int.reduceMul, Int.reduceNeg,  *]))
                    exact Again.intro ⟨L - (i + 1), by have := H.out; omega, _, Sub.refl _, i + 1, .mk ⟨rfl, by omega, fun j hj => by
                      by_cases hji : j = i
                      · rw [hji, HX.out, ← HF.out]; omega
                      · exact H.out.2.2 j (by omega)⟩, (by first | (simp only [upd, put, Nat.reduceEqDiff, ↓reduceIte, t0, hv]; done) | (simp [upd, put, t0, hv]; done) | rfl | (simp [upd, put, t0, hv]; rfl)), (by first | (simp only [upd, put, Nat.reduceEqDiff, ↓reduceIte, t1]; done) | (simp [upd, put, t1]; done) | rfl | (simp [upd, put, t1]; rfl)), ttt, rfl⟩)
              · have lt : ¬ (i : Int) < (L : Int) := by omega
                repeat' (first | exact tf0 ‹_› | exact tf1 ‹_› | exact False.elim ‹_› | (with_reducible refine Al.intro ?_; intro pb hpb; (try simp only [hupd_none'] at hpb); (repeat rcases hpb with ⟨⟨hpx, hpy⟩, hpb⟩)) | with_reducible refine need ?_ | ((with_reducible first | refine frk0 ?_ ?_ | refine frk1 ?_ ?_ | refine frk2 ?_ ?_ | refine frk3 ?_ ?_ | refine frk4 ?_ ?_ | refine frk5 ?_ ?_ | refine frk6 ?_ ?_ | refine frk7 ?_ ?_ | refine frk8 ?_ ?_ | refine frk9 ?_ ?_) <;> intro h <;> try (exfalso; omega)) | with_reducible refine quiet_and ?_ ?_ | with_reducible refine awp_drawnA mixed (by decide +kernel) ?_ | ((fail_if_success with_reducible refine stp ?_); simp -implicitDefEqProofs only [go_sem, Nat.reduceEqDiff, Nat.reduceAdd, Nat.reduceLT, Nat.reduceMul, Nat.reduceSub, Nat.reduceLeDiff, ↓reduceIte, reduceCtorEq, ↓String.reduceEq, String.reduceNe, Int.reduceToNat, Int.reduceLT, Int.reduceLE, Int.reduceGT, Int.reduceGE, Int.reduceEq, Int.reduceNe, Int.reduceBEq, Int.reduceBNe, Int.reduceAdd, Int.reduceSub, Int.reduceMul, Int.reduceNeg,  *]))
                exact Again.intro ⟨.mk fun j hj => H.out.2.2 j (by have := H0.out; omega), (by first | (simp only [upd, put, Nat.reduceEqDiff, ↓reduceIte, t0, hv]; done) | (simp [upd, put, t0, hv]; done) | rfl | (simp [upd, put, t0, hv]; rfl)), (by first | (simp only [upd, put, Nat.reduceEqDiff, ↓reduceIte, t1]; done) | (simp [upd, put, t1]; done) | rfl | (simp [upd, put, t1]; rfl)), rfl⟩
            · clear t0 t1
              rintro ts m2 ⟨HB, t0, t1, hm2⟩
              subst m2
              repeat' (first | exact tf0 ‹_› | exact tf1 ‹_› | exact False.elim ‹_› | (with_reducible refine Al.intro ?_; intro pb hpb; (try simp only [hupd_none'] at hpb); (repeat rcases hpb with ⟨⟨hpx, hpy⟩, hpb⟩)) | with_reducible refine need ?_ | ((with_reducible first | refine frk0 ?_ ?_ | refine frk1 ?_ ?_ | refine frk2 ?_ ?_ | refine frk3 ?_ ?_ | refine frk4 ?_ ?_ | refine frk5 ?_ ?_ | refine frk6 ?_ ?_ | refine frk7 ?_ ?_ | refine frk8 ?_ ?_ | refine frk9 ?_ ?_) <;> intro h <;> try (exfalso; omega)) | with_reducible refine quiet_and ?_ ?_ | with_reducible refine awp_drawnA mixed (by decide +kernel) ?_ | ((fail_if_success with_reducible refine stp ?_); simp -implicitDefEqProofs only [go_sem, Nat.reduceEqDiff, Nat.reduceAdd, Nat.reduceLT, Nat.reduceMul, Nat.reduceSub, Nat.reduceLeDiff, ↓reduceIte, reduceCtorEq, ↓String.reduceEq, String.reduceNe, Int.reduceToNat, Int.reduceLT, Int.reduceLE, Int.reduceGT, Int.reduceGE, Int.reduceEq, Int.reduceNe, Int.reduceBEq, Int.reduceBNe, Int.reduceAdd, Int.reduceSub, Int.reduceMul, Int.reduceNeg,  *]))
              refine awp_loopP 4 (fun ts m' => Hid (∀ s ∈ C, s.2.2.1 = 1 → n ≤ s.2.2.2.2.1) ∧ ts 0 = v ∧ m' = m) (fun k ts m' => ∃ i : Nat, Hid (k = L - i ∧ i ≤ L ∧ ∀ s ∈ C.take i, s.2.2.1 = 1 → n ≤ s.2.2.2.2.1) ∧ ts 0 = v ∧ ts 1 = .int .i64 n ∧ ts 9 = .int .i64 (i : Nat) ∧ m' = m) L ⟨0, .mk ⟨rfl, Nat.zero_le _, by simp⟩, by simp [upd, t0, hv], by simp [upd, t1], ttt, rfl⟩ ?_ ?_
              · clear t0 t1
                rintro k ts m2 ⟨i, H, t0, t1, t9, hm2⟩
                subst m2
                by_cases hi : i < L
                · have lt : (i : Int) < (L : Int) := by omega
                  have hiC : i < C.length := by have := H0.out; omega
                  obtain ⟨x, hx⟩ : ∃ x, C.getD i default = x := ⟨_, rfl⟩
                  have g1 := sm_cell C pre post i hiC x hx 2 (by decide)
                  have g3 := sm_cell C pre post i hiC x hx 4 (by decide)
                  rw [show (encSc x).getD 2 .undef = .int .i64 x.2.2.1 from rfl] at g1
                  rw [show (encSc x).getD 4 .undef = .int .i64 x.2.2.2.2.1 from rfl] at g3
                  have g2 := sm_lst C i hiC x hx
                  have l1 := sm_len C pre post i hiC
                  have w1 : IntKind.i64.wrap ((i : Int) + 1) = ((i + 1 : Nat) : Int) := by rw [wrap_i64 (by omega) (by omega)]; omega
                  have hCt := take_one C i hiC
                  have hxm : x ∈ C := by rw [← hx]; exact getD_mem C i hiC
                  have HX := Hid.mk (And.intro hx (And.intro hCt hxm))
                  clear hx hCt hiC hxm
                  by_cases hc1 : x.2.2.1 = 1
                  · by_cases hc2 : x.2.2.2.2.1 < n
                    · repeat' (first | exact tf0 ‹_› | exact tf1 ‹_› | exact False.elim ‹_› | (with_reducible refine Al.intro ?_; intro pb hpb; (try simp only [hupd_none'] at hpb); (repeat rcases hpb with ⟨⟨hpx, hpy⟩, hpb⟩)) | with_reducible refine need ?_ | ((with_reducible first | refine frk0 ?_ ?_ | refine frk1 ?_ ?_ | refine frk2 ?_ ?_ | refine frk3 ?_ ?_ | refine frk4 ?_ ?_ | refine frk5 ?_ ?_ | refine frk6 ?_ ?_ | refine frk7 ?_ ?_ | refine frk8 ?_ ?_ | refine frk9 ?_ ?_) <;> intro h <;> try (exfalso; omega)) | with_reducible refine quiet_and ?_ ?_ | with_reducible refine awp_drawnA mixed (by decide +kernel) ?_ | ((fail_if_success with_reducible refine stp ?_); simp -implicitDefEqProofs only [go_sem, Nat.reduceEqDiff, Nat.reduceAdd, Nat.reduceLT, Nat.reduceMul, Nat.reduceSub, Nat.reduceLeDiff, ↓reduceIte, reduceCtorEq, ↓String.reduceEq, String.reduceNe, Int.reduceToNat, Int.reduceLT, Int.reduceLE, Int.reduceGT, Int.reduceGE, Int.reduceEq, Int.reduceNe, Int.reduceBEq, Int.reduceBNe, Int.reduceAdd, Int.reduceSub, Int.reduceMul, Int.reduceNeg,  encSc, *]))
                      all_goals exact ⟨_, Sub.refl _, HK.out _ _ ⟨fun h => absurd h (by decide), fun h => absurd (h.2.2.2.2 x HX.out.2.2 hc1) (by omega)⟩⟩
                    · repeat' (first | exact tf0 ‹_› | exact tf1 ‹_› | exact False.elim ‹_› | (with_reducible refine Al.intro ?_; intro pb hpb; (try simp only [hupd_none'] at hpb); (repeat rcases hpb with ⟨⟨hpx, hpy⟩, hpb⟩)) | with_reducible refine need ?_ | ((with_reducible first | refine frk0 ?_ ?_ | refine frk1 ?_ ?_ | refine frk2 ?_ ?_ | refine frk3 ?_ ?_ | refine frk4 ?_ ?_ | refine frk5 ?_ ?_ | refine frk6 ?_ ?_ | refine frk7 ?_ ?_ | refine frk8 ?_ ?_ | refine frk9 ?_ ?_) <;> intro h <;> try (exfalso; omega)) | with_reducible refine quiet_and ?_ ?_ | with_reducible refine awp_drawnA mixed (by decide +kernel) ?_ | ((fail_if_success with_reducible refine stp ?_); simp -implicitDefEqProofs only [go_sem, Nat.reduceEqDiff, Nat.reduceAdd, Nat.reduceLT, Nat.reduceMul, Nat.reduceSub, Nat.reduceLeDiff, ↓reduceIte, reduceCtorEq, ↓String.reduceEq, String.reduceNe, Int.reduceToNat, Int.reduceLT, Int.reduceLE, Int.reduceGT, Int.reduceGE, Int.reduceEq, Int.reduceNe, Int.reduceBEq, Int.reduceBNe, Int.reduceAdd, Int.reduceSub, Int.reduceMul, Int.reduceNeg,  encSc, *]))
                      all_goals exact Again.intro ⟨L - (i + 1), by have := H.out; omega, _, Sub.refl _, i + 1, .mk ⟨rfl, by omega, fun s hs => by
                        rw [HX.out.2.1, HX.out.1] at hs
                        rcases List.mem_append.1 hs with hs | hs
                        · exact H.out.2.2 s hs
                        · rw [List.mem_singleton.1 hs]; intro _; omega⟩, (by first | (simp only [upd, put, Nat.reduceEqDiff, ↓reduceIte, t0, hv]; done) | (simp [upd, put, t0, hv]; done) | rfl | (simp [upd, put, t0, hv]; rfl)), (by first | (simp only [upd, put, Nat.reduceEqDiff, ↓reduceIte, t1]; done) | (simp [upd, put, t1]; done) | rfl | (simp [upd, put, t1]; rfl)), ttt, rfl⟩
                  · repeat' (first | exact tf0 ‹_› | exact tf1 ‹_› | exact False.elim ‹_› | (with_reducible refine Al.intro ?_; intro pb hpb; (try simp only [hupd_none'] at hpb); (repeat rcases hpb with ⟨⟨hpx, hpy⟩, hpb⟩)) | with_reducible refine need ?_ | ((with_reducible first | refine frk0 ?_ ?_ | refine frk1 ?_ ?_ | refine frk2 ?_ ?_ | refine frk3 ?_ ?_ | refine frk4 ?_ ?_ | refine frk5 ?_ ?_ | refine frk6 ?_ ?_ | refine frk7 ?_ ?_ | refine frk8 ?_ ?_ | refine frk9 ?_ ?_) <;> intro h <;> try (exfalso; omega)) | with_reducible refine quiet_and ?_ ?_ | with_reducible refine awp_drawnA mixed (by decide +kernel) ?_ | ((fail_if_success with_reducible refine stp ?_); simp -implicitDefEqProofs only [go_sem, Nat.reduceEqDiff, Nat.reduceAdd, Nat.reduceLT, Nat.reduceMul, Nat.reduceSub, Nat.reduceLeDiff, ↓reduceIte, reduceCtorEq, ↓String.reduceEq, String.reduceNe, Int.reduceToNat, Int.reduceLT, Int.reduceLE, Int.reduceGT, Int.reduceGE, Int.reduceEq, Int.reduceNe, Int.reduceBEq, Int.reduceBNe, Int.reduceAdd, Int.reduceSub, Int.reduceMul, Int.reduceNeg,  encSc, *]))
                    all_goals exact Again.intro ⟨L - (i + 1), by have := H.out; omega, _, Sub.refl _, i + 1, .mk ⟨rfl, by omega, fun s hs => by
                      rw [HX.out.2.1, HX.out.1] at hs
                      rcases List.mem_append.1 hs with hs | hs
                      · exact H.out.2.2 s hs
                      · rw [List.mem_singleton.1 hs]; intro h; exact absurd h hc1⟩, (by first | (simp only [upd, put, Nat.reduceEqDiff, ↓reduceIte, t0, hv]; done) | (simp [upd, put, t0, hv]; done) | rfl | (simp [upd, put, t0, hv]; rfl)), (by first | (simp only [upd, put, Nat.reduceEqDiff, ↓reduceIte, t1]; done) | (simp [upd, put, t1]; done) | rfl | (simp [upd, put, t1]; rfl)), ttt, rfl⟩
                · have lt : ¬ (i : Int) < (L : Int) := by omega
                  repeat' (first | exact tf0 ‹_› | exact tf1 ‹_› | exact False.elim ‹_› | (with_reducible refine Al.intro ?_; intro pb hpb; (try simp only [hupd_none'] at hpb); (repeat rcases hpb with ⟨⟨hpx, hpy⟩, hpb⟩)) | with_reducible refine need ?_ | ((with_reducible first | refine frk0 ?_ ?_ | refine frk1 ?_ ?_ | refine frk2 ?_ ?_ | refine frk3 ?_ ?_ | refine frk4 ?_ ?_ | refine frk5 ?_ ?_ | refine frk6 ?_ ?_ | refine frk7 ?_ ?_ | refine frk8 ?_ ?_ | refine frk9 ?_ ?_) <;> intro h <;> try (exfalso; omega)) | with_reducible refine quiet_and ?_ ?_ | with_reducible refine awp_drawnA mixed (by decide +kernel) ?_ | ((fail_if_success with_reducible refine stp ?_); simp -implicitDefEqProofs only [go_sem, Nat.reduceEqDiff, Nat.reduceAdd, Nat.reduceLT, Nat.reduceMul, Nat.reduceSub, Nat.reduceLeDiff, ↓reduceIte, reduceCtorEq, ↓String.reduceEq, String.reduceNe, Int.reduceToNat, Int.reduceLT, Int.reduceLE, Int.reduceGT, Int.reduceGE, Int.reduceEq, Int.reduceNe, Int.reduceBEq, Int.reduceBNe, Int.reduceAdd, Int.reduceSub, Int.reduceMul, Int.reduceNeg,  *]))
                  exact Again.intro ⟨.mk (by have h := H.out.2.2; rwa [List.take_of_length_le (by have := H0.out; omega)] at h), (by first | (simp only [upd, put, Nat.reduceEqDiff, ↓reduceIte, t0, hv]; done) | (simp [upd, put, t0, hv]; done) | rfl | (simp [upd, put, t0, hv]; rfl)), rfl⟩
              · clear t0 t1
                rintro ts m2 ⟨HD, t0, hm2⟩
                subst m2
                repeat' (first | exact tf0 ‹_› | exact tf1 ‹_› | exact False.elim ‹_› | (with_reducible refine Al.intro ?_; intro pb hpb; (try simp only [hupd_none'] at hpb); (repeat rcases hpb with ⟨⟨hpx, hpy⟩, hpb⟩)) | with_reducible refine need ?_ | ((with_reducible first | refine frk0 ?_ ?_ | refine frk1 ?_ ?_ | refine frk2 ?_ ?_ | refine frk3 ?_ ?_ | refine frk4 ?_ ?_ | refine frk5 ?_ ?_ | refine frk6 ?_ ?_ | refine frk7 ?_ ?_ | refine frk8 ?_ ?_ | refine frk9 ?_ ?_) <;> intro h <;> try (exfalso; omega)) | with_reducible refine quiet_and ?_ ?_ | with_reducible refine awp_drawnA mixed (by decide +kernel) ?_ | ((fail_if_success with_reducible refine stp ?_); simp -implicitDefEqProofs only [go_sem, Nat.reduceEqDiff, Nat.reduceAdd, Nat.reduceLT, Nat.reduceMul, Nat.reduceSub, Nat.reduceLeDiff, ↓reduceIte, reduceCtorEq, ↓String.reduceEq, String.reduceNe, Int.reduceToNat, Int.reduceLT, Int.reduceLE, Int.reduceGT, Int.reduceGE, Int.reduceEq, Int.reduceNe, Int.reduceBEq, Int.reduceBNe, Int.reduceAdd, Int.reduceSub, Int.reduceMul, Int.reduceNeg,  *]))
                exact ⟨_, Sub.refl _, HK.out _ _ ⟨fun _ => ⟨by have := H0.out; omega, HN.out, HA.out, HB.out, HD.out⟩, fun _ => rfl⟩⟩
        · have n1 : ¬ n < 1 := by omega
          have n2 : 1073741824 < n := by omega
          have HN := Hid.mk hn2
          clear hn1 hn2
          refine callWP_body Try.func52 rfl (N := 74) rfl (rs := [.tmp 4, .tmp 5]) rfl en_52 (of_decide_eq_true rfl) ?_
          repeat' (first | exact tf0 ‹_› | exact tf1 ‹_› | exact False.elim ‹_› | (with_reducible refine Al.intro ?_; intro pb hpb; (try simp only [hupd_none'] at hpb); (repeat rcases hpb with ⟨⟨hpx, hpy⟩, hpb⟩)) | with_reducible refine need ?_ | ((with_reducible first | refine frk0 ?_ ?_ | refine frk1 ?_ ?_ | refine frk2 ?_ ?_ | refine frk3 ?_ ?_ | refine frk4 ?_ ?_ | refine frk5 ?_ ?_ | refine frk6 ?_ ?_ | refine frk7 ?_ ?_ | refine frk8 ?_ ?_ | refine frk9 ?_ ?_) <;> intro h <;> try (exfalso; omega)) | with_reducible refine quiet_and ?_ ?_ | with_reducible refine awp_drawnA mixed (by decide +kernel) ?_ | ((fail_if_success with_reducible refine stp ?_); simp -implicitDefEqProofs only [go_sem, Nat.reduceEqDiff, Nat.reduceAdd, Nat.reduceLT, Nat.reduceMul, Nat.reduceSub, Nat.reduceLeDiff, ↓reduceIte, reduceCtorEq, ↓String.reduceEq, String.reduceNe, Int.reduceToNat, Int.reduceLT, Int.reduceLE, Int.reduceGT, Int.reduceGE, Int.reduceEq, Int.reduceNe, Int.reduceBEq, Int.reduceBNe, Int.reduceAdd, Int.reduceSub, Int.reduceMul, Int.reduceNeg,  *]))
          exact ⟨_, Sub.refl _, HK.out _ _ ⟨fun h => absurd h (by decide), fun h => absurd h.2.1.2 HN.out⟩⟩
      · have n1 : n < 1 := by omega
        have HN := Hid.mk hn1
        clear hn1
        refine callWP_body Try.func52 rfl (N := 74) rfl (rs := [.tmp 4, .tmp 5]) rfl en_52 (of_decide_eq_true rfl) ?_
        repeat' (first | exact tf0 ‹_› | exact tf1 ‹_› | exact False.elim ‹_› | (with_reducible refine Al.intro ?_; intro pb hpb; (try simp only [hupd_none'] at hpb); (repeat rcases hpb with ⟨⟨hpx, hpy⟩, hpb⟩)) | with_reducible refine need ?_ | ((with_reducible first | refine frk0 ?_ ?_ | refine frk1 ?_ ?_ | refine frk2 ?_ ?_ | refine frk3 ?_ ?_ | refine frk4 ?_ ?_ | refine frk5 ?_ ?_ | refine frk6 ?_ ?_ | refine frk7 ?_ ?_ | refine frk8 ?_ ?_ | refine frk9 ?_ ?_) <;> intro h <;> try (exfalso; omega)) | with_reducible refine quiet_and ?_ ?_ | with_reducible refine awp_drawnA mixed (by decide +kernel) ?_ | ((fail_if_success with_reducible refine stp ?_); simp -implicitDefEqProofs only [go_sem, Nat.reduceEqDiff, Nat.reduceAdd, Nat.reduceLT, Nat.reduceMul, Nat.reduceSub, Nat.reduceLeDiff, ↓reduceIte, reduceCtorEq, ↓String.reduceEq, String.reduceNe, Int.reduceToNat, Int.reduceLT, Int.reduceLE, Int.reduceGT, Int.reduceGE, Int.reduceEq, Int.reduceNe, Int.reduceBEq, Int.reduceBNe, Int.reduceAdd, Int.reduceSub, Int.reduceMul, Int.reduceNeg,  *]))
        exact ⟨_, Sub.refl _, HK.out _ _ ⟨fun h => absurd h (by decide), fun h => absurd h.2.1.1 HN.out⟩⟩
    · have n0 : (64 : Int) < (L : Int) := by omega
      have H64 := Hid.mk h64
      clear h64
      refine callWP_body Try.func52 rfl (N := 74) rfl (rs := [.tmp 4, .tmp 5]) rfl en_52 (of_decide_eq_true rfl) ?_
      repeat' (first | exact tf0 ‹_› | exact tf1 ‹_› | exact False.elim ‹_› | (with_reducible refine Al.intro ?_; intro pb hpb; (try simp only [hupd_none'] at hpb); (repeat rcases hpb with ⟨⟨hpx, hpy⟩, hpb⟩)) | with_reducible refine need ?_ | ((with_reducible first | refine frk0 ?_ ?_ | refine frk1 ?_ ?_ | refine frk2 ?_ ?_ | refine frk3 ?_ ?_ | refine frk4 ?_ ?_ | refine frk5 ?_ ?_ | refine frk6 ?_ ?_ | refine frk7 ?_ ?_ | refine frk8 ?_ ?_ | refine frk9 ?_ ?_) <;> intro h <;> try (exfalso; omega)) | with_reducible refine quiet_and ?_ ?_ | with_reducible refine awp_drawnA mixed (by decide +kernel) ?_ | ((fail_if_success with_reducible refine stp ?_); simp -implicitDefEqProofs only [go_sem, Nat.reduceEqDiff, Nat.reduceAdd, Nat.reduceLT, Nat.reduceMul, Nat.reduceSub, Nat.reduceLeDiff, ↓reduceIte, reduceCtorEq, ↓String.reduceEq, String.reduceNe, Int.reduceToNat, Int.reduceLT, Int.reduceLE, Int.reduceGT, Int.reduceGE, Int.reduceEq, Int.reduceNe, Int.reduceBEq, Int.reduceBNe, Int.reduceAdd, Int.reduceSub, Int.reduceMul, Int.reduceNeg,  *]))
      all_goals exact ⟨_, Sub.refl _, HK.out _ _ ⟨fun h => absurd h (by decide), fun h => absurd h.1 (by have := H0.out; have := H64.out; omega)⟩⟩)
end Go.Proofs.Ytmifapnmlhchlaa
