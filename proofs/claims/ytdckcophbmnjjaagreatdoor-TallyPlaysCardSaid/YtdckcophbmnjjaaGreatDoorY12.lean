/- What is wrong with a row of streams: ranges over functions. Whether a row of streams can be, the program's way. -/
import Derived.Test.YtdckcophbmnjjaaGreatDoorY10
set_option linter.all false
namespace Go.Proofs.YtdckcophbmnjjaaGreatDoor
open Go Go.Proofs.YtdckcophbmnjjaaGreatDoor.Ab
open Go.Proofs (Tryz.prog)
set_option maxRecDepth 100000
set_option maxHeartbeats 4000000 in
theorem pall1_spec (G : Nat → AVal) (C : List Stm) (hl : C.length ≤ 1000) (v : AVal) (g : FuncId) (cs : List AVal) (err : Nat → Int) {l pv pf : Nat} {m : Heap} (J : Nat → Heap → Prop) (K : AVal → Heap → Prop)
    (hpv : m pv = some (.cells [v] 1)) (hpf : m pf = some (.cells [.func (.func g) [] cs] 1)) (hs : RdS C v m)
    (hfn : ∀ i, i < C.length → ∀ m', Sub m m' → CallWP Tryz.prog G g (.int .i64 (i : Nat) :: .agg (encSc (C.getD i default)) :: cs) m' fun v2 m2 => v2 = .int .i64 (err i) ∧ m2 = m')
    (hgo : ∀ i, i < C.length → err i = 0 → ∀ m', Sub m m' → YieldWP Tryz.prog G l [.int .i64 (i : Nat), .int .i64 0] m' fun r m'' => r = .bool true ∧ Sub m m'')
    (hstop : ∀ i, i < C.length → err i ≠ 0 → ∀ m', Sub m m' → YieldWP Tryz.prog G l [.int .i64 (i : Nat), .int .i64 (err i)] m' fun r m'' => r = .bool false ∧ J i m'')
    (hK0 : (∀ i, i < C.length → err i = 0) → ∀ m', Sub m m' → K (.tuple []) m')
    (hK1 : ∀ i, i < C.length → err i ≠ 0 → (∀ j, j < i → err j = 0) → ∀ m', J i m' → K (.tuple []) m') : CallWP Tryz.prog G 62 [.func (.yield l) [] [], .ptr pv 0, .ptr pf 0] m K := by
  obtain ⟨L, hL⟩ : ∃ L, L = C.length := ⟨_, rfl⟩
  have H0 := Hid.mk hL
  have ll : (C.map encS).length = L := by rw [List.length_map]; exact hL.symm
  obtain ⟨b, pre, post, N, cap, hw⟩ := hs.ways hL
  have lL : L ≤ 1000 := by omega
  have HF := Hid.mk (And.intro hfn (And.intro hgo hstop))
  have HK := Hid.mk (And.intro hK0 hK1)
  have HPF := Hid.mk hpf
  clear hs hL hl hfn hgo hstop hK0 hK1
  rcases hw with ⟨hv, hz⟩ | ⟨hv, hb⟩ | hv
  all_goals (
    refine callWP_body Tryz.func62 rfl (N := 22) rfl (rs := []) rfl en_62 (of_decide_eq_true rfl) ?_
    repeat' (first | exact tf0 ‹_› | exact tf1 ‹_› | exact False.elim ‹_› | (with_reducible refine Al.intro ?_; intro pb hpb; (try simp only [hupd_none'] at hpb); (repeat rcases hpb with ⟨⟨hpx, hpy⟩, hpb⟩)) | with_reducible refine need ?_ | ((with_reducible first | apply frk0 | apply frk1 | apply frk2 | apply frk3 | apply frk4 | apply frk5 | apply frk6 | apply frk7 | apply frk8 | apply frk9) <;> intro h <;> try (exfalso; omega)) | with_reducible refine quiet_and ?_ ?_ | with_reducible refine awp_drawnA mixed (by decide +kernel) ?_ | ((fail_if_success with_reducible refine stp ?_); simp -implicitDefEqProofs only [go_sem, Nat.reduceEqDiff, Nat.reduceAdd, Nat.reduceLT, Nat.reduceMul, Nat.reduceSub, Nat.reduceLeDiff, ↓reduceIte, reduceCtorEq, ↓String.reduceEq, String.reduceNe, Int.reduceToNat, Int.reduceLT, Int.reduceLE, Int.reduceGT, Int.reduceGE, Int.reduceEq, Int.reduceNe, Int.reduceBEq, Int.reduceBNe, Int.reduceAdd, Int.reduceSub, Int.reduceMul, Int.reduceNeg,  *]))
    clear hpv hpf
    refine awp_loopP 0 (fun ts m' => Hid (Sub m m' ∧ ∀ j, j < L → err j = 0)) (fun k ts m' => ∃ i : Nat, Hid (k = L - i ∧ i ≤ L ∧ Sub m m' ∧ ∀ j, j < i → err j = 0) ∧ ts 0 = .func (.yield l) [] [] ∧ ts 2 = .ptr pf 0 ∧ ts 6 = v ∧ ts 7 = .int .i64 (L : Nat) ∧ ts 8 = .int .i64 (i : Nat)) L ⟨0, .mk ⟨rfl, Nat.zero_le _, Sub.refl _, fun j hj => absurd hj (Nat.not_lt_zero j)⟩, ttt, ttt, by simp [upd, hv], by simp [upd, hv, ll, *], ttt⟩ ?_ ?_
    · rintro k ts m2 ⟨i, H, t0, t2, t6, t7, t8⟩
      by_cases hi : i < L
      · have lt : (i : Int) < (L : Int) := by omega
        have hiC : i < C.length := by have := H0.out; omega
        have hF1 := HF.out.1 i hiC
        have hF2 := HF.out.2.1 i hiC
        have hF3 := HF.out.2.2 i hiC
        obtain ⟨x, hx⟩ : ∃ x, C.getD i default = x := ⟨_, rfl⟩
        rw [hx] at hF1
        have HF1 := Hid.mk (And.intro hF1 (And.intro hF2 hF3))
        have g1 := sm_at C pre post i hiC x hx
        have g2 := sm_lst C i hiC x hx
        have l1 := sm_len C pre post i hiC
        have w1 : IntKind.i64.wrap ((i : Int) + 1) = ((i + 1 : Nat) : Int) := by rw [wrap_i64 (by omega) (by omega)]; omega
        have hpf2 := H.out.2.2.1 _ _ HPF.out
        have fr : ∀ b', m2 b' = none → (pf = b') = False := fun b' h => by
          rw [eq_iff_iff, iff_false]
          rintro rfl
          rw [hpf2] at h; cases h
        try (have hb2 := H.out.2.2.1 _ _ hb)
        have HX := Hid.mk hiC
        clear hx hiC hF1 hF2 hF3
        repeat' (first | exact tf0 ‹_› | exact tf1 ‹_› | exact False.elim ‹_› | (with_reducible refine Al.intro ?_; intro pb hpb; (try simp only [hupd_none'] at hpb); (repeat rcases hpb with ⟨⟨hpx, hpy⟩, hpb⟩)) | with_reducible refine need ?_ | ((with_reducible first | apply frk0 | apply frk1 | apply frk2 | apply frk3 | apply frk4 | apply frk5 | apply frk6 | apply frk7 | apply frk8 | apply frk9) <;> intro h <;> try (exfalso; omega)) | with_reducible refine quiet_and ?_ ?_ | with_reducible refine awp_drawnA mixed (by decide +kernel) ?_ | ((fail_if_success with_reducible refine stp ?_); simp -implicitDefEqProofs only [go_sem, Nat.reduceEqDiff, Nat.reduceAdd, Nat.reduceLT, Nat.reduceMul, Nat.reduceSub, Nat.reduceLeDiff, ↓reduceIte, reduceCtorEq, ↓String.reduceEq, String.reduceNe, Int.reduceToNat, Int.reduceLT, Int.reduceLE, Int.reduceGT, Int.reduceGE, Int.reduceEq, Int.reduceNe, Int.reduceBEq, Int.reduceBNe, Int.reduceAdd, Int.reduceSub, Int.reduceMul, Int.reduceNeg,  *]))
        all_goals (
          have hsm : ∀ y, Sub m (hupd m2 pb y) := fun y => (H.out.2.2.1).fresh (H.out.2.2.1.gone hpb)
          have HSM := Hid.mk hsm
          clear hsm
          refine CallWP.to (HF1.out.1 _ (HSM.out _)) ?_
          by_cases hq : err i = 0
          · have HQ := Hid.mk hq
            rw [hq]
            clear hq
            repeat' (first | exact tf0 ‹_› | exact tf1 ‹_› | exact False.elim ‹_› | (with_reducible refine Al.intro ?_; intro pb hpb; (try simp only [hupd_none'] at hpb); (repeat rcases hpb with ⟨⟨hpx, hpy⟩, hpb⟩)) | with_reducible refine need ?_ | ((with_reducible first | apply frk0 | apply frk1 | apply frk2 | apply frk3 | apply frk4 | apply frk5 | apply frk6 | apply frk7 | apply frk8 | apply frk9) <;> intro h <;> try (exfalso; omega)) | with_reducible refine quiet_and ?_ ?_ | with_reducible refine awp_drawnA mixed (by decide +kernel) ?_ | ((fail_if_success with_reducible refine stp ?_); simp -implicitDefEqProofs only [go_sem, Nat.reduceEqDiff, Nat.reduceAdd, Nat.reduceLT, Nat.reduceMul, Nat.reduceSub, Nat.reduceLeDiff, ↓reduceIte, reduceCtorEq, ↓String.reduceEq, String.reduceNe, Int.reduceToNat, Int.reduceLT, Int.reduceLE, Int.reduceGT, Int.reduceGE, Int.reduceEq, Int.reduceNe, Int.reduceBEq, Int.reduceBNe, Int.reduceAdd, Int.reduceSub, Int.reduceMul, Int.reduceNeg,  *]))
            refine YieldWP.mono (HF1.out.2.1 HQ.out _ (HSM.out _)) ?_
            rintro r m3 ⟨rfl, hI⟩
            have HI3 := Hid.mk hI
            clear hI hpb fr hpf2
            try clear hb2
            repeat' (first | exact tf0 ‹_› | exact tf1 ‹_› | exact False.elim ‹_› | (with_reducible refine Al.intro ?_; intro pb hpb; (try simp only [hupd_none'] at hpb); (repeat rcases hpb with ⟨⟨hpx, hpy⟩, hpb⟩)) | with_reducible refine need ?_ | ((with_reducible first | apply frk0 | apply frk1 | apply frk2 | apply frk3 | apply frk4 | apply frk5 | apply frk6 | apply frk7 | apply frk8 | apply frk9) <;> intro h <;> try (exfalso; omega)) | with_reducible refine quiet_and ?_ ?_ | with_reducible refine awp_drawnA mixed (by decide +kernel) ?_ | ((fail_if_success with_reducible refine stp ?_); simp -implicitDefEqProofs only [go_sem, Nat.reduceEqDiff, Nat.reduceAdd, Nat.reduceLT, Nat.reduceMul, Nat.reduceSub, Nat.reduceLeDiff, ↓reduceIte, reduceCtorEq, ↓String.reduceEq, String.reduceNe, Int.reduceToNat, Int.reduceLT, Int.reduceLE, Int.reduceGT, Int.reduceGE, Int.reduceEq, Int.reduceNe, Int.reduceBEq, Int.reduceBNe, Int.reduceAdd, Int.reduceSub, Int.reduceMul, Int.reduceNeg,  *]))
            exact Again.intro ⟨L - (i + 1), by have := H.out; omega, _, Sub.refl _, i + 1, .mk ⟨rfl, by omega, HI3.out, fun j hj => by
              by_cases e : j = i
              · rw [e]; exact HQ.out
              · exact H.out.2.2.2 j (by omega)⟩, (by first | (simp only [upd, put, Nat.reduceEqDiff, ↓reduceIte, t0]; done) | (simp [upd, put, t0]; done) | rfl | (simp [upd, put, t0]; rfl)), (by first | (simp only [upd, put, Nat.reduceEqDiff, ↓reduceIte, t2]; done) | (simp [upd, put, t2]; done) | rfl | (simp [upd, put, t2]; rfl)), (by first | (simp only [upd, put, Nat.reduceEqDiff, ↓reduceIte, t6, hv]; done) | (simp [upd, put, t6, hv]; done) | rfl | (simp [upd, put, t6, hv]; rfl)), (by first | (simp only [upd, put, Nat.reduceEqDiff, ↓reduceIte, t7]; done) | (simp [upd, put, t7]; done) | rfl | (simp [upd, put, t7]; rfl)), ttt⟩
          · have HQ := Hid.mk hq
            clear hq
            repeat' (first | exact tf0 ‹_› | exact tf1 ‹_› | exact False.elim ‹_› | (with_reducible refine Al.intro ?_; intro pb hpb; (try simp only [hupd_none'] at hpb); (repeat rcases hpb with ⟨⟨hpx, hpy⟩, hpb⟩)) | with_reducible refine need ?_ | ((with_reducible first | apply frk0 | apply frk1 | apply frk2 | apply frk3 | apply frk4 | apply frk5 | apply frk6 | apply frk7 | apply frk8 | apply frk9) <;> intro h <;> try (exfalso; omega)) | with_reducible refine quiet_and ?_ ?_ | with_reducible refine awp_drawnA mixed (by decide +kernel) ?_ | ((fail_if_success with_reducible refine stp ?_); simp -implicitDefEqProofs only [go_sem, Nat.reduceEqDiff, Nat.reduceAdd, Nat.reduceLT, Nat.reduceMul, Nat.reduceSub, Nat.reduceLeDiff, ↓reduceIte, reduceCtorEq, ↓String.reduceEq, String.reduceNe, Int.reduceToNat, Int.reduceLT, Int.reduceLE, Int.reduceGT, Int.reduceGE, Int.reduceEq, Int.reduceNe, Int.reduceBEq, Int.reduceBNe, Int.reduceAdd, Int.reduceSub, Int.reduceMul, Int.reduceNeg,  *]))
            refine YieldWP.mono (HF1.out.2.2 HQ.out _ (HSM.out _)) ?_
            rintro r m3 ⟨rfl, hJ⟩
            have HJ := Hid.mk hJ
            clear hJ hpb fr hpf2
            try clear hb2
            repeat' (first | exact tf0 ‹_› | exact tf1 ‹_› | exact False.elim ‹_› | (with_reducible refine Al.intro ?_; intro pb hpb; (try simp only [hupd_none'] at hpb); (repeat rcases hpb with ⟨⟨hpx, hpy⟩, hpb⟩)) | with_reducible refine need ?_ | ((with_reducible first | apply frk0 | apply frk1 | apply frk2 | apply frk3 | apply frk4 | apply frk5 | apply frk6 | apply frk7 | apply frk8 | apply frk9) <;> intro h <;> try (exfalso; omega)) | with_reducible refine quiet_and ?_ ?_ | with_reducible refine awp_drawnA mixed (by decide +kernel) ?_ | ((fail_if_success with_reducible refine stp ?_); simp -implicitDefEqProofs only [go_sem, Nat.reduceEqDiff, Nat.reduceAdd, Nat.reduceLT, Nat.reduceMul, Nat.reduceSub, Nat.reduceLeDiff, ↓reduceIte, reduceCtorEq, ↓String.reduceEq, String.reduceNe, Int.reduceToNat, Int.reduceLT, Int.reduceLE, Int.reduceGT, Int.reduceGE, Int.reduceEq, Int.reduceNe, Int.reduceBEq, Int.reduceBNe, Int.reduceAdd, Int.reduceSub, Int.reduceMul, Int.reduceNeg,  *]))
            exact ⟨_, Sub.refl _, HK.out.2 i HX.out HQ.out H.out.2.2.2 _ HJ.out⟩)
      · have lt : ¬ (i : Int) < (L : Int) := by omega
        repeat' (first | exact tf0 ‹_› | exact tf1 ‹_› | exact False.elim ‹_› | (with_reducible refine Al.intro ?_; intro pb hpb; (try simp only [hupd_none'] at hpb); (repeat rcases hpb with ⟨⟨hpx, hpy⟩, hpb⟩)) | with_reducible refine need ?_ | ((with_reducible first | apply frk0 | apply frk1 | apply frk2 | apply frk3 | apply frk4 | apply frk5 | apply frk6 | apply frk7 | apply frk8 | apply frk9) <;> intro h <;> try (exfalso; omega)) | with_reducible refine quiet_and ?_ ?_ | with_reducible refine awp_drawnA mixed (by decide +kernel) ?_ | ((fail_if_success with_reducible refine stp ?_); simp -implicitDefEqProofs only [go_sem, Nat.reduceEqDiff, Nat.reduceAdd, Nat.reduceLT, Nat.reduceMul, Nat.reduceSub, Nat.reduceLeDiff, ↓reduceIte, reduceCtorEq, ↓String.reduceEq, String.reduceNe, Int.reduceToNat, Int.reduceLT, Int.reduceLE, Int.reduceGT, Int.reduceGE, Int.reduceEq, Int.reduceNe, Int.reduceBEq, Int.reduceBNe, Int.reduceAdd, Int.reduceSub, Int.reduceMul, Int.reduceNeg,  *]))
        exact Again.intro (.mk ⟨H.out.2.2.1, fun j hj => H.out.2.2.2 j (by omega)⟩)
    · rintro ts m2 H
      repeat' (first | exact tf0 ‹_› | exact tf1 ‹_› | exact False.elim ‹_› | (with_reducible refine Al.intro ?_; intro pb hpb; (try simp only [hupd_none'] at hpb); (repeat rcases hpb with ⟨⟨hpx, hpy⟩, hpb⟩)) | with_reducible refine need ?_ | ((with_reducible first | apply frk0 | apply frk1 | apply frk2 | apply frk3 | apply frk4 | apply frk5 | apply frk6 | apply frk7 | apply frk8 | apply frk9) <;> intro h <;> try (exfalso; omega)) | with_reducible refine quiet_and ?_ ?_ | with_reducible refine awp_drawnA mixed (by decide +kernel) ?_ | ((fail_if_success with_reducible refine stp ?_); simp -implicitDefEqProofs only [go_sem, Nat.reduceEqDiff, Nat.reduceAdd, Nat.reduceLT, Nat.reduceMul, Nat.reduceSub, Nat.reduceLeDiff, ↓reduceIte, reduceCtorEq, ↓String.reduceEq, String.reduceNe, Int.reduceToNat, Int.reduceLT, Int.reduceLE, Int.reduceGT, Int.reduceGE, Int.reduceEq, Int.reduceNe, Int.reduceBEq, Int.reduceBNe, Int.reduceAdd, Int.reduceSub, Int.reduceMul, Int.reduceNeg,  *]))
      exact ⟨_, Sub.refl _, HK.out.1 (by rw [← H0.out]; exact H.out.2) _ H.out.1⟩)
theorem sub_back {m m' : Heap} {l : Nat} {x : ABlk} (h : Sub (hupd m l x) m') : Sub (hupd m l x) (hupd m' l x) := by
  intro y z hy
  by_cases e : y = l
  · rw [e, hupd_at, if_pos rfl] at hy ⊢; exact hy
  · rw [hupd_ne e]; exact h _ _ hy
set_option maxHeartbeats 4000000 in
theorem pfirst_spec (G : Nat → AVal) (C : List Stm) (hl : C.length ≤ 1000) (v : AVal) (g : FuncId) (cs : List AVal) (err : Nat → Int) {pv pf : Nat} {m : Heap} (K : AVal → Heap → Prop)
    (hpv : m pv = some (.cells [v] 1)) (hpf : m pf = some (.cells [.func (.func g) [] cs] 1)) (hs : RdS C v m)
    (hfn : ∀ i, i < C.length → ∀ m', Sub m m' → CallWP Tryz.prog G g (.int .i64 (i : Nat) :: .agg (encSc (C.getD i default)) :: cs) m' fun v2 m2 => v2 = .int .i64 (err i) ∧ m2 = m')
    (hK0 : (∀ i, i < C.length → err i = 0) → K (.tuple [.int .i64 0, .int .i64 0]) m)
    (hK1 : ∀ i, i < C.length → err i ≠ 0 → (∀ j, j < i → err j = 0) → K (.tuple [.int .i64 (i : Nat), .int .i64 (err i)]) m) : CallWP Tryz.prog G 46 [.func (.func 62) [] [.ptr pv 0, .ptr pf 0]] m K := by
  have HK := Hid.mk (And.intro hK0 hK1)
  have HF := Hid.mk (And.intro hl (And.intro hfn hs))
  have HP := Hid.mk (And.intro hpv hpf)
  clear hK0 hK1 hl hfn hs hpv hpf
  refine callWP_body Tryz.func46 rfl (N := 13) rfl (rs := [.cell 2 3, .cell 3 26]) rfl en_46 (of_decide_eq_true rfl) ?_
  repeat' (first | exact tf0 ‹_› | exact tf1 ‹_› | exact False.elim ‹_› | (with_reducible refine Al.intro ?_; intro pb hpb; (try simp only [hupd_none'] at hpb); (repeat rcases hpb with ⟨⟨hpx, hpy⟩, hpb⟩)) | with_reducible refine need ?_ | ((with_reducible first | apply frk0 | apply frk1 | apply frk2 | apply frk3 | apply frk4 | apply frk5 | apply frk6 | apply frk7 | apply frk8 | apply frk9) <;> intro h <;> try (exfalso; omega)) | with_reducible refine quiet_and ?_ ?_ | with_reducible refine awp_drawnA mixed (by decide +kernel) ?_ | ((fail_if_success with_reducible refine stp ?_); simp -implicitDefEqProofs only [go_sem, Nat.reduceEqDiff, Nat.reduceAdd, Nat.reduceLT, Nat.reduceMul, Nat.reduceSub, Nat.reduceLeDiff, ↓reduceIte, reduceCtorEq, ↓String.reduceEq, String.reduceNe, Int.reduceToNat, Int.reduceLT, Int.reduceLE, Int.reduceGT, Int.reduceGE, Int.reduceEq, Int.reduceNe, Int.reduceBEq, Int.reduceBNe, Int.reduceAdd, Int.reduceSub, Int.reduceMul, Int.reduceNeg,  *]))
  rename_i p2 hp2
  have HN := Hid.mk (And.intro hp2 hpb)
  obtain ⟨p3, e3⟩ : ∃ p, p = pb := ⟨_, rfl⟩
  subst e3
  clear hp2 hpb
  refine awp_scope 0 rfl (fun _ _ _ => False) ?_ (fun _ _ _ h => h.elim)
  repeat' (first | exact tf0 ‹_› | exact tf1 ‹_› | exact False.elim ‹_› | (with_reducible refine Al.intro ?_; intro pb hpb; (try simp only [hupd_none'] at hpb); (repeat rcases hpb with ⟨⟨hpx, hpy⟩, hpb⟩)) | with_reducible refine need ?_ | ((with_reducible first | apply frk0 | apply frk1 | apply frk2 | apply frk3 | apply frk4 | apply frk5 | apply frk6 | apply frk7 | apply frk8 | apply frk9) <;> intro h <;> try (exfalso; omega)) | with_reducible refine quiet_and ?_ ?_ | with_reducible refine awp_drawnA mixed (by decide +kernel) ?_ | ((fail_if_success with_reducible refine stp ?_); simp -implicitDefEqProofs only [go_sem, Nat.reduceEqDiff, Nat.reduceAdd, Nat.reduceLT, Nat.reduceMul, Nat.reduceSub, Nat.reduceLeDiff, ↓reduceIte, reduceCtorEq, ↓String.reduceEq, String.reduceNe, Int.reduceToNat, Int.reduceLT, Int.reduceLE, Int.reduceGT, Int.reduceGE, Int.reduceEq, Int.reduceNe, Int.reduceBEq, Int.reduceBNe, Int.reduceAdd, Int.reduceSub, Int.reduceMul, Int.reduceNeg,  *]))
  refine awp_range (gf := 62) (fs := []) (cs := [.ptr pv 0, .ptr pf 0]) (by rfl) en_62 (fun l hl => ?_)
  simp only [hupd_none'] at hl
  obtain ⟨⟨l3, l3'⟩, ⟨l2, l2'⟩, hl0⟩ := hl
  have HL := Hid.mk hl0
  clear hl0
  have sm : ∀ (x y : ABlk), Sub m (hupd (hupd m p2 x) p3 y) := fun x y => ((Sub.refl _).fresh HN.out.1).fresh HN.out.2
  have SM := Hid.mk (And.intro sm (fun (x y z : ABlk) => (sm x y).fresh (b := l) (x := z) HL.out))
  clear sm
  refine pall1_spec G C HF.out.1 v g cs err (fun i m' => (∃ N' ts' ps a b, m' l = some (.loop N' ts' ps a b .done (some .ret))) ∧ m' p2 = some (.cells [.int .i64 (i : Nat)] 1) ∧ m' p3 = some (.cells [.int .i64 (err i)] 1) ∧ Sub m m') _ (SM.out.2 _ _ _ _ _ HP.out.1) (SM.out.2 _ _ _ _ _ HP.out.2) (HF.out.2.2.into (SM.out.2 _ _ _)) (fun i hi m' hm' => HF.out.2.1 i hi m' (fun y z h => hm' _ _ (SM.out.2 _ _ _ _ _ h))) ?_ ?_ ?_ ?_
  · rintro i hi he m' hm'
    have HM := Hid.mk hm'
    have hb2 := hm' p2 (.cells [.int .i64 0] 1) (by rw [hupd_ne l2', hupd_ne hpy, hupd_at, if_pos rfl])
    have hb3 := hm' p3 (.cells [.int .i64 0] 1) (by rw [hupd_ne l3', hupd_at, if_pos rfl])
    refine yield_of (hm' l _ (by rw [hupd_at, if_pos rfl])) rfl (by decide +kernel) ?_
    have hb := hm' l _ (by rw [hupd_at, if_pos rfl])
    clear hm' he
    repeat' (first | exact tf0 ‹_› | exact tf1 ‹_› | exact False.elim ‹_› | (with_reducible refine Al.intro ?_; intro pb hpb; (try simp only [hupd_none'] at hpb); (repeat rcases hpb with ⟨⟨hpx, hpy⟩, hpb⟩)) | with_reducible refine need ?_ | ((with_reducible first | apply frk0 | apply frk1 | apply frk2 | apply frk3 | apply frk4 | apply frk5 | apply frk6 | apply frk7 | apply frk8 | apply frk9) <;> intro h <;> try (exfalso; omega)) | with_reducible refine quiet_and ?_ ?_ | with_reducible refine awp_drawnA mixed (by decide +kernel) ?_ | ((fail_if_success with_reducible refine stp ?_); simp -implicitDefEqProofs only [go_sem, Nat.reduceEqDiff, Nat.reduceAdd, Nat.reduceLT, Nat.reduceMul, Nat.reduceSub, Nat.reduceLeDiff, ↓reduceIte, reduceCtorEq, ↓String.reduceEq, String.reduceNe, Int.reduceToNat, Int.reduceLT, Int.reduceLE, Int.reduceGT, Int.reduceGE, Int.reduceEq, Int.reduceNe, Int.reduceBEq, Int.reduceBNe, Int.reduceAdd, Int.reduceSub, Int.reduceMul, Int.reduceNeg,  *]))
    refine ⟨by rw [hupd_at, if_pos rfl], rfl, ?_⟩
    rw [hupd_hupd]
    exact sub_back HM.out
  · rintro i hi he m' hm'
    have HM := Hid.mk hm'
    have HE := Hid.mk he
    have hb2 := hm' p2 (.cells [.int .i64 0] 1) (by rw [hupd_ne l2', hupd_ne hpy, hupd_at, if_pos rfl])
    have hb3 := hm' p3 (.cells [.int .i64 0] 1) (by rw [hupd_ne l3', hupd_at, if_pos rfl])
    refine yield_of (hm' l _ (by rw [hupd_at, if_pos rfl])) rfl (by decide +kernel) ?_
    have hb := hm' l _ (by rw [hupd_at, if_pos rfl])
    clear hm'
    obtain ⟨e, he2⟩ : ∃ e, e = err i := ⟨_, rfl⟩
    rw [← he2] at he ⊢
    have HE2 := Hid.mk he2
    clear he2
    repeat' (first | exact tf0 ‹_› | exact tf1 ‹_› | exact False.elim ‹_› | (with_reducible refine Al.intro ?_; intro pb hpb; (try simp only [hupd_none'] at hpb); (repeat rcases hpb with ⟨⟨hpx, hpy⟩, hpb⟩)) | with_reducible refine need ?_ | ((with_reducible first | apply frk0 | apply frk1 | apply frk2 | apply frk3 | apply frk4 | apply frk5 | apply frk6 | apply frk7 | apply frk8 | apply frk9) <;> intro h <;> try (exfalso; omega)) | with_reducible refine quiet_and ?_ ?_ | with_reducible refine awp_drawnA mixed (by decide +kernel) ?_ | ((fail_if_success with_reducible refine stp ?_); simp -implicitDefEqProofs only [go_sem, Nat.reduceEqDiff, Nat.reduceAdd, Nat.reduceLT, Nat.reduceMul, Nat.reduceSub, Nat.reduceLeDiff, ↓reduceIte, reduceCtorEq, ↓String.reduceEq, String.reduceNe, Int.reduceToNat, Int.reduceLT, Int.reduceLE, Int.reduceGT, Int.reduceGE, Int.reduceEq, Int.reduceNe, Int.reduceBEq, Int.reduceBNe, Int.reduceAdd, Int.reduceSub, Int.reduceMul, Int.reduceNeg,  *]))
    refine ⟨by rw [hupd_ne l3, hupd_ne l2, hupd_at, if_pos rfl], rfl, ⟨_, _, _, _, _, by rw [hupd_at, if_pos rfl]⟩, by rw [hupd_ne l2', hupd_ne hpy, hupd_at, if_pos rfl], by rw [hupd_ne l3', hupd_at, if_pos rfl], ?_⟩
    intro y z hy
    have n2 : y ≠ p2 := fun e => by rw [e, HN.out.1] at hy; cases hy
    have n3 : y ≠ p3 := fun e => by rw [e, HN.out.2] at hy; cases hy
    have nl : y ≠ l := fun e => by rw [e, HL.out] at hy; cases hy
    rw [hupd_ne nl, hupd_ne n3, hupd_ne n2, hupd_ne nl]
    exact HM.out _ _ (by rw [hupd_ne nl, hupd_ne n3, hupd_ne n2]; exact hy)
  · rintro hall m' hm'
    have HA := Hid.mk hall
    have sub1 : Sub (hupd (hupd m p2 (.cells [.int .i64 0] 1)) p3 (.cells [.int .i64 0] 1)) m' := fun y z hy => by
      by_cases nl : y = l
      · rw [nl, hupd_ne l3, hupd_ne l2, HL.out] at hy; cases hy
      · exact hm' _ _ (by rw [hupd_ne nl]; exact hy)
    refine ⟨_, _, _, _, _, _, _, hupd (hupd m p2 (.cells [.int .i64 0] 1)) p3 (.cells [.int .i64 0] 1), hm' l _ (by rw [hupd_at, if_pos rfl]), by decide, sub1, by rw [hupd_ne l3, hupd_ne l2]; exact HL.out, ?_⟩
    clear sub1 hm' hall
    show blockA 0 _ _ _ _
    repeat' (first | exact tf0 ‹_› | exact tf1 ‹_› | exact False.elim ‹_› | (with_reducible refine Al.intro ?_; intro pb hpb; (try simp only [hupd_none'] at hpb); (repeat rcases hpb with ⟨⟨hpx, hpy⟩, hpb⟩)) | with_reducible refine need ?_ | ((with_reducible first | apply frk0 | apply frk1 | apply frk2 | apply frk3 | apply frk4 | apply frk5 | apply frk6 | apply frk7 | apply frk8 | apply frk9) <;> intro h <;> try (exfalso; omega)) | with_reducible refine quiet_and ?_ ?_ | with_reducible refine awp_drawnA mixed (by decide +kernel) ?_ | ((fail_if_success with_reducible refine stp ?_); simp -implicitDefEqProofs only [go_sem, Nat.reduceEqDiff, Nat.reduceAdd, Nat.reduceLT, Nat.reduceMul, Nat.reduceSub, Nat.reduceLeDiff, ↓reduceIte, reduceCtorEq, ↓String.reduceEq, String.reduceNe, Int.reduceToNat, Int.reduceLT, Int.reduceLE, Int.reduceGT, Int.reduceGE, Int.reduceEq, Int.reduceNe, Int.reduceBEq, Int.reduceBNe, Int.reduceAdd, Int.reduceSub, Int.reduceMul, Int.reduceNeg,  *]))
    exact ⟨m, SM.out.1 _ _, HK.out.1 HA.out⟩
  · rintro i hi he hj m' ⟨⟨N', ts', ps, a, b, hb⟩, h2, h3, hm'⟩
    have HA := Hid.mk (And.intro hi (And.intro he hj))
    obtain ⟨e, he2⟩ : ∃ e, e = err i := ⟨_, rfl⟩
    have HE2 := Hid.mk he2
    rw [← he2] at h3
    have sub1 : Sub (hupd (hupd m p2 (.cells [.int .i64 (i : Nat)] 1)) p3 (.cells [.int .i64 e] 1)) m' := fun y z hy => by
      by_cases n3 : y = p3
      · rw [n3, hupd_at, if_pos rfl] at hy; rw [n3, h3]; exact hy
      · by_cases n2 : y = p2
        · rw [n2, hupd_ne hpy, hupd_at, if_pos rfl] at hy; rw [n2, h2]; exact hy
        · rw [hupd_ne n3, hupd_ne n2] at hy; exact hm' _ _ hy
    refine ⟨_, _, _, _, _, _, _, hupd (hupd m p2 (.cells [.int .i64 (i : Nat)] 1)) p3 (.cells [.int .i64 e] 1), hb, by decide, sub1, by rw [hupd_ne l3, hupd_ne l2]; exact HL.out, ?_⟩
    clear sub1 hm' hi he hj hb h2 h3 he2
    show run _ _ _ _ _ _ _ _
    repeat' (first | exact tf0 ‹_› | exact tf1 ‹_› | exact False.elim ‹_› | (with_reducible refine Al.intro ?_; intro pb hpb; (try simp only [hupd_none'] at hpb); (repeat rcases hpb with ⟨⟨hpx, hpy⟩, hpb⟩)) | with_reducible refine need ?_ | ((with_reducible first | apply frk0 | apply frk1 | apply frk2 | apply frk3 | apply frk4 | apply frk5 | apply frk6 | apply frk7 | apply frk8 | apply frk9) <;> intro h <;> try (exfalso; omega)) | with_reducible refine quiet_and ?_ ?_ | with_reducible refine awp_drawnA mixed (by decide +kernel) ?_ | ((fail_if_success with_reducible refine stp ?_); simp -implicitDefEqProofs only [go_sem, Nat.reduceEqDiff, Nat.reduceAdd, Nat.reduceLT, Nat.reduceMul, Nat.reduceSub, Nat.reduceLeDiff, ↓reduceIte, reduceCtorEq, ↓String.reduceEq, String.reduceNe, Int.reduceToNat, Int.reduceLT, Int.reduceLE, Int.reduceGT, Int.reduceGE, Int.reduceEq, Int.reduceNe, Int.reduceBEq, Int.reduceBNe, Int.reduceAdd, Int.reduceSub, Int.reduceMul, Int.reduceNeg,  *]))
    exact ⟨m, SM.out.1 _ _, by rw [HE2.out]; exact HK.out.2 i HA.out.1 HA.out.2.1 HA.out.2.2⟩
end Go.Proofs.YtdckcophbmnjjaaGreatDoor
namespace Go.Proofs.YtdckcophbmnjjaaGreatDoor
open Go Go.Proofs.YtdckcophbmnjjaaGreatDoor.Ab
open Go.Proofs (Tryz.prog)
set_option maxRecDepth 100000
theorem pall_spec (G : Nat → AVal) (C : List Stm) (v : AVal) (g : FuncId) (cs : List AVal) (m : Heap) (hs : RdS C v m) (K : AVal → Heap → Prop)
    (hK : ∀ pv pf m', Sub m m' → m' pv = some (.cells [v] 1) → m' pf = some (.cells [.func (.func g) [] cs] 1) → K (.func (.func 62) [] [.ptr pv 0, .ptr pf 0]) m') : CallWP Tryz.prog G 47 [v, .func (.func g) [] cs] m K := by
  have HK := Hid.mk hK
  clear hK
  obtain ⟨b, pre, post, N, cap, hw⟩ := hs.ways rfl
  clear hs
  rcases hw with ⟨rfl, hz⟩ | ⟨rfl, hb⟩ | rfl
  all_goals (
    refine callWP_body Tryz.func47 rfl (N := 6) rfl (rs := [.tmp 4]) rfl en_47 (of_decide_eq_true rfl) ?_
    repeat' (first | exact tf0 ‹_› | exact tf1 ‹_› | exact False.elim ‹_› | (with_reducible refine Al.intro ?_; intro pb hpb; (try simp only [hupd_none'] at hpb); (repeat rcases hpb with ⟨⟨hpx, hpy⟩, hpb⟩)) | with_reducible refine need ?_ | ((with_reducible first | apply frk0 | apply frk1 | apply frk2 | apply frk3 | apply frk4 | apply frk5 | apply frk6 | apply frk7 | apply frk8 | apply frk9) <;> intro h <;> try (exfalso; omega)) | with_reducible refine quiet_and ?_ ?_ | with_reducible refine awp_drawnA mixed (by decide +kernel) ?_ | ((fail_if_success with_reducible refine stp ?_); simp -implicitDefEqProofs only [go_sem, Nat.reduceEqDiff, Nat.reduceAdd, Nat.reduceLT, Nat.reduceMul, Nat.reduceSub, Nat.reduceLeDiff, ↓reduceIte, reduceCtorEq, ↓String.reduceEq, String.reduceNe, Int.reduceToNat, Int.reduceLT, Int.reduceLE, Int.reduceGT, Int.reduceGE, Int.reduceEq, Int.reduceNe, Int.reduceBEq, Int.reduceBNe, Int.reduceAdd, Int.reduceSub, Int.reduceMul, Int.reduceNeg,  *]))
    rename_i p1 h1
    refine ⟨_, Sub.refl _, HK.out p1 pb _ (((Sub.refl _).fresh h1).fresh hpb) (by rw [hupd_ne (by assumption), hupd_at, if_pos rfl]) (by rw [hupd_at, if_pos rfl])⟩)
theorem pc1_spec (G : Nat → AVal) (x : Stm) (i : Int) (m : Heap) : CallWP Tryz.prog G 41 [.int .i64 i, .agg (encSc x)] m fun v2 m2 => v2 = .int .i64 (rightS x) ∧ m2 = m := by
  refine callWP_body Tryz.func41 rfl (N := 7) rfl (rs := [.tmp 4]) rfl en_41 (of_decide_eq_true rfl) ?_
  repeat' (first | exact tf0 ‹_› | exact tf1 ‹_› | exact False.elim ‹_› | (with_reducible refine Al.intro ?_; intro pb hpb; (try simp only [hupd_none'] at hpb); (repeat rcases hpb with ⟨⟨hpx, hpy⟩, hpb⟩)) | with_reducible refine need ?_ | ((with_reducible first | apply frk0 | apply frk1 | apply frk2 | apply frk3 | apply frk4 | apply frk5 | apply frk6 | apply frk7 | apply frk8 | apply frk9) <;> intro h <;> try (exfalso; omega)) | with_reducible refine quiet_and ?_ ?_ | with_reducible refine awp_drawnA mixed (by decide +kernel) ?_ | ((fail_if_success with_reducible refine stp ?_); simp -implicitDefEqProofs only [go_sem, Nat.reduceEqDiff, Nat.reduceAdd, Nat.reduceLT, Nat.reduceMul, Nat.reduceSub, Nat.reduceLeDiff, ↓reduceIte, reduceCtorEq, ↓String.reduceEq, String.reduceNe, Int.reduceToNat, Int.reduceLT, Int.reduceLE, Int.reduceGT, Int.reduceGE, Int.reduceEq, Int.reduceNe, Int.reduceBEq, Int.reduceBNe, Int.reduceAdd, Int.reduceSub, Int.reduceMul, Int.reduceNeg,  encSc, *]))
  refine CallWP.to (pright_spec G x _) ?_
  repeat' (first | exact tf0 ‹_› | exact tf1 ‹_› | exact False.elim ‹_› | (with_reducible refine Al.intro ?_; intro pb hpb; (try simp only [hupd_none'] at hpb); (repeat rcases hpb with ⟨⟨hpx, hpy⟩, hpb⟩)) | with_reducible refine need ?_ | ((with_reducible first | apply frk0 | apply frk1 | apply frk2 | apply frk3 | apply frk4 | apply frk5 | apply frk6 | apply frk7 | apply frk8 | apply frk9) <;> intro h <;> try (exfalso; omega)) | with_reducible refine quiet_and ?_ ?_ | with_reducible refine awp_drawnA mixed (by decide +kernel) ?_ | ((fail_if_success with_reducible refine stp ?_); simp -implicitDefEqProofs only [go_sem, Nat.reduceEqDiff, Nat.reduceAdd, Nat.reduceLT, Nat.reduceMul, Nat.reduceSub, Nat.reduceLeDiff, ↓reduceIte, reduceCtorEq, ↓String.reduceEq, String.reduceNe, Int.reduceToNat, Int.reduceLT, Int.reduceLE, Int.reduceGT, Int.reduceGE, Int.reduceEq, Int.reduceNe, Int.reduceBEq, Int.reduceBNe, Int.reduceAdd, Int.reduceSub, Int.reduceMul, Int.reduceNeg,  *]))
  refine ⟨m, (by (repeat refine Sub.fresh ?_ (by assumption)); exact Sub.refl m), ?_, rfl⟩
  rfl
theorem pc2_spec (G : Nat → AVal) (C : List Stm) (hl : C.length ≤ 1000) (v : AVal) (i : Nat) (p : Nat) (m : Heap) (hs : RdS C v m) (hp : m p = some (.cells [v] 1)) : CallWP Tryz.prog G 43 [.int .i64 (i : Nat), .agg (encSc (C.getD i default)), .ptr p 0] m fun v2 m2 => v2 = .int .i64 (e2F C i) ∧ m2 = m := by
  obtain ⟨x, hx⟩ : ∃ x, C.getD i default = x := ⟨_, rfl⟩
  have HX := Hid.mk hx
  rw [hx]
  have HS := Hid.mk (And.intro hs hl)
  have fr : ∀ b, m b = none → (p = b) = False := fun b h => by
    rw [eq_iff_iff, iff_false]
    rintro rfl
    rw [hp] at h; cases h
  obtain ⟨b, pre, post, N, cap, hw⟩ := hs.ways rfl
  clear hs hl hx
  obtain ⟨f, hf⟩ : ∃ f, findF C x.1 = f := ⟨_, rfl⟩
  have HF := Hid.mk hf
  clear hf
  rcases hw with ⟨rfl, hz⟩ | ⟨rfl, hb⟩ | rfl
  all_goals (
    refine callWP_body Tryz.func43 rfl (N := 13) rfl (rs := [.tmp 5]) rfl en_43 (of_decide_eq_true rfl) ?_
    repeat' (first | exact tf0 ‹_› | exact tf1 ‹_› | exact False.elim ‹_› | (with_reducible refine Al.intro ?_; intro pb hpb; (try simp only [hupd_none'] at hpb); (repeat rcases hpb with ⟨⟨hpx, hpy⟩, hpb⟩)) | with_reducible refine need ?_ | ((with_reducible first | apply frk0 | apply frk1 | apply frk2 | apply frk3 | apply frk4 | apply frk5 | apply frk6 | apply frk7 | apply frk8 | apply frk9) <;> intro h <;> try (exfalso; omega)) | with_reducible refine quiet_and ?_ ?_ | with_reducible refine awp_drawnA mixed (by decide +kernel) ?_ | ((fail_if_success with_reducible refine stp ?_); simp -implicitDefEqProofs only [go_sem, Nat.reduceEqDiff, Nat.reduceAdd, Nat.reduceLT, Nat.reduceMul, Nat.reduceSub, Nat.reduceLeDiff, ↓reduceIte, reduceCtorEq, ↓String.reduceEq, String.reduceNe, Int.reduceToNat, Int.reduceLT, Int.reduceLE, Int.reduceGT, Int.reduceGE, Int.reduceEq, Int.reduceNe, Int.reduceBEq, Int.reduceBNe, Int.reduceAdd, Int.reduceSub, Int.reduceMul, Int.reduceNeg,  encSc, *]))
    refine CallWP.to (pfind_spec G C HS.out.2 _ _ _ (HS.out.1.into ((Sub.refl _).fresh hpb))) ?_
    rw [HF.out]
    by_cases hq : f = (i : Int)
    · have hb2 : (f != (i : Int)) = false := by simpa using hq
      have HQ := Hid.mk hq
      clear hq
      repeat' (first | exact tf0 ‹_› | exact tf1 ‹_› | exact False.elim ‹_› | (with_reducible refine Al.intro ?_; intro pb hpb; (try simp only [hupd_none'] at hpb); (repeat rcases hpb with ⟨⟨hpx, hpy⟩, hpb⟩)) | with_reducible refine need ?_ | ((with_reducible first | apply frk0 | apply frk1 | apply frk2 | apply frk3 | apply frk4 | apply frk5 | apply frk6 | apply frk7 | apply frk8 | apply frk9) <;> intro h <;> try (exfalso; omega)) | with_reducible refine quiet_and ?_ ?_ | with_reducible refine awp_drawnA mixed (by decide +kernel) ?_ | ((fail_if_success with_reducible refine stp ?_); simp -implicitDefEqProofs only [go_sem, Nat.reduceEqDiff, Nat.reduceAdd, Nat.reduceLT, Nat.reduceMul, Nat.reduceSub, Nat.reduceLeDiff, ↓reduceIte, reduceCtorEq, ↓String.reduceEq, String.reduceNe, Int.reduceToNat, Int.reduceLT, Int.reduceLE, Int.reduceGT, Int.reduceGE, Int.reduceEq, Int.reduceNe, Int.reduceBEq, Int.reduceBNe, Int.reduceAdd, Int.reduceSub, Int.reduceMul, Int.reduceNeg,  *]))
      try rw [hb2]
      refine CallWP.to (pwrong_spec G false 13 _) ?_
      repeat' (first | exact tf0 ‹_› | exact tf1 ‹_› | exact False.elim ‹_› | (with_reducible refine Al.intro ?_; intro pb hpb; (try simp only [hupd_none'] at hpb); (repeat rcases hpb with ⟨⟨hpx, hpy⟩, hpb⟩)) | with_reducible refine need ?_ | ((with_reducible first | apply frk0 | apply frk1 | apply frk2 | apply frk3 | apply frk4 | apply frk5 | apply frk6 | apply frk7 | apply frk8 | apply frk9) <;> intro h <;> try (exfalso; omega)) | with_reducible refine quiet_and ?_ ?_ | with_reducible refine awp_drawnA mixed (by decide +kernel) ?_ | ((fail_if_success with_reducible refine stp ?_); simp -implicitDefEqProofs only [go_sem, Nat.reduceEqDiff, Nat.reduceAdd, Nat.reduceLT, Nat.reduceMul, Nat.reduceSub, Nat.reduceLeDiff, ↓reduceIte, reduceCtorEq, ↓String.reduceEq, String.reduceNe, Int.reduceToNat, Int.reduceLT, Int.reduceLE, Int.reduceGT, Int.reduceGE, Int.reduceEq, Int.reduceNe, Int.reduceBEq, Int.reduceBNe, Int.reduceAdd, Int.reduceSub, Int.reduceMul, Int.reduceNeg,  *]))
      exact ⟨m, (Sub.refl _).fresh hpb, by unfold e2F; rw [HX.out, HF.out]; simp [HQ.out], rfl⟩
    · have hb2 : (f != (i : Int)) = true := by simpa using hq
      have HQ := Hid.mk hq
      clear hq
      repeat' (first | exact tf0 ‹_› | exact tf1 ‹_› | exact False.elim ‹_› | (with_reducible refine Al.intro ?_; intro pb hpb; (try simp only [hupd_none'] at hpb); (repeat rcases hpb with ⟨⟨hpx, hpy⟩, hpb⟩)) | with_reducible refine need ?_ | ((with_reducible first | apply frk0 | apply frk1 | apply frk2 | apply frk3 | apply frk4 | apply frk5 | apply frk6 | apply frk7 | apply frk8 | apply frk9) <;> intro h <;> try (exfalso; omega)) | with_reducible refine quiet_and ?_ ?_ | with_reducible refine awp_drawnA mixed (by decide +kernel) ?_ | ((fail_if_success with_reducible refine stp ?_); simp -implicitDefEqProofs only [go_sem, Nat.reduceEqDiff, Nat.reduceAdd, Nat.reduceLT, Nat.reduceMul, Nat.reduceSub, Nat.reduceLeDiff, ↓reduceIte, reduceCtorEq, ↓String.reduceEq, String.reduceNe, Int.reduceToNat, Int.reduceLT, Int.reduceLE, Int.reduceGT, Int.reduceGE, Int.reduceEq, Int.reduceNe, Int.reduceBEq, Int.reduceBNe, Int.reduceAdd, Int.reduceSub, Int.reduceMul, Int.reduceNeg,  *]))
      try rw [hb2]
      refine CallWP.to (pwrong_spec G true 13 _) ?_
      repeat' (first | exact tf0 ‹_› | exact tf1 ‹_› | exact False.elim ‹_› | (with_reducible refine Al.intro ?_; intro pb hpb; (try simp only [hupd_none'] at hpb); (repeat rcases hpb with ⟨⟨hpx, hpy⟩, hpb⟩)) | with_reducible refine need ?_ | ((with_reducible first | apply frk0 | apply frk1 | apply frk2 | apply frk3 | apply frk4 | apply frk5 | apply frk6 | apply frk7 | apply frk8 | apply frk9) <;> intro h <;> try (exfalso; omega)) | with_reducible refine quiet_and ?_ ?_ | with_reducible refine awp_drawnA mixed (by decide +kernel) ?_ | ((fail_if_success with_reducible refine stp ?_); simp -implicitDefEqProofs only [go_sem, Nat.reduceEqDiff, Nat.reduceAdd, Nat.reduceLT, Nat.reduceMul, Nat.reduceSub, Nat.reduceLeDiff, ↓reduceIte, reduceCtorEq, ↓String.reduceEq, String.reduceNe, Int.reduceToNat, Int.reduceLT, Int.reduceLE, Int.reduceGT, Int.reduceGE, Int.reduceEq, Int.reduceNe, Int.reduceBEq, Int.reduceBNe, Int.reduceAdd, Int.reduceSub, Int.reduceMul, Int.reduceNeg,  *]))
      exact ⟨m, (Sub.refl _).fresh hpb, by unfold e2F; rw [HX.out, HF.out]; simp [HQ.out], rfl⟩)
theorem pc3_spec (G : Nat → AVal) (x : Stm) (i n : Int) (p : Nat) (m : Heap) (hp : m p = some (.cells [.int .i64 n] 1)) : CallWP Tryz.prog G 45 [.int .i64 i, .agg (encSc x), .ptr p 0] m fun v2 m2 => v2 = .int .i64 (e3F n x) ∧ m2 = m := by
  have fr : ∀ b, m b = none → (p = b) = False := fun b h => by
    rw [eq_iff_iff, iff_false]
    rintro rfl
    rw [hp] at h; cases h
  by_cases hq : x.2.2.1 = 1
  · refine callWP_body Tryz.func45 rfl (N := 16) rfl (rs := [.tmp 5]) rfl en_45 (of_decide_eq_true rfl) ?_
    repeat' (first | exact tf0 ‹_› | exact tf1 ‹_› | exact False.elim ‹_› | (with_reducible refine Al.intro ?_; intro pb hpb; (try simp only [hupd_none'] at hpb); (repeat rcases hpb with ⟨⟨hpx, hpy⟩, hpb⟩)) | with_reducible refine need ?_ | ((with_reducible first | apply frk0 | apply frk1 | apply frk2 | apply frk3 | apply frk4 | apply frk5 | apply frk6 | apply frk7 | apply frk8 | apply frk9) <;> intro h <;> try (exfalso; omega)) | with_reducible refine quiet_and ?_ ?_ | with_reducible refine awp_drawnA mixed (by decide +kernel) ?_ | ((fail_if_success with_reducible refine stp ?_); simp -implicitDefEqProofs only [go_sem, Nat.reduceEqDiff, Nat.reduceAdd, Nat.reduceLT, Nat.reduceMul, Nat.reduceSub, Nat.reduceLeDiff, ↓reduceIte, reduceCtorEq, ↓String.reduceEq, String.reduceNe, Int.reduceToNat, Int.reduceLT, Int.reduceLE, Int.reduceGT, Int.reduceGE, Int.reduceEq, Int.reduceNe, Int.reduceBEq, Int.reduceBNe, Int.reduceAdd, Int.reduceSub, Int.reduceMul, Int.reduceNeg,  encSc, *]))
    refine CallWP.to (pwrong_spec G (decide (x.2.2.2.2.1 < n)) 9 _) ?_
    repeat' (first | exact tf0 ‹_› | exact tf1 ‹_› | exact False.elim ‹_› | (with_reducible refine Al.intro ?_; intro pb hpb; (try simp only [hupd_none'] at hpb); (repeat rcases hpb with ⟨⟨hpx, hpy⟩, hpb⟩)) | with_reducible refine need ?_ | ((with_reducible first | apply frk0 | apply frk1 | apply frk2 | apply frk3 | apply frk4 | apply frk5 | apply frk6 | apply frk7 | apply frk8 | apply frk9) <;> intro h <;> try (exfalso; omega)) | with_reducible refine quiet_and ?_ ?_ | with_reducible refine awp_drawnA mixed (by decide +kernel) ?_ | ((fail_if_success with_reducible refine stp ?_); simp -implicitDefEqProofs only [go_sem, Nat.reduceEqDiff, Nat.reduceAdd, Nat.reduceLT, Nat.reduceMul, Nat.reduceSub, Nat.reduceLeDiff, ↓reduceIte, reduceCtorEq, ↓String.reduceEq, String.reduceNe, Int.reduceToNat, Int.reduceLT, Int.reduceLE, Int.reduceGT, Int.reduceGE, Int.reduceEq, Int.reduceNe, Int.reduceBEq, Int.reduceBNe, Int.reduceAdd, Int.reduceSub, Int.reduceMul, Int.reduceNeg,  *]))
    refine ⟨m, (Sub.refl _).fresh hpb, ?_, rfl⟩
    unfold e3F
    simp [hq]
  · have hb2 : (x.2.2.1 == 1) = false := by simpa using hq
    have HQ := Hid.mk hq
    clear hq
    refine callWP_body Tryz.func45 rfl (N := 16) rfl (rs := [.tmp 5]) rfl en_45 (of_decide_eq_true rfl) ?_
    repeat' (first | exact tf0 ‹_› | exact tf1 ‹_› | exact False.elim ‹_› | (with_reducible refine Al.intro ?_; intro pb hpb; (try simp only [hupd_none'] at hpb); (repeat rcases hpb with ⟨⟨hpx, hpy⟩, hpb⟩)) | with_reducible refine need ?_ | ((with_reducible first | apply frk0 | apply frk1 | apply frk2 | apply frk3 | apply frk4 | apply frk5 | apply frk6 | apply frk7 | apply frk8 | apply frk9) <;> intro h <;> try (exfalso; omega)) | with_reducible refine quiet_and ?_ ?_ | with_reducible refine awp_drawnA mixed (by decide +kernel) ?_ | ((fail_if_success with_reducible refine stp ?_); simp -implicitDefEqProofs only [go_sem, Nat.reduceEqDiff, Nat.reduceAdd, Nat.reduceLT, Nat.reduceMul, Nat.reduceSub, Nat.reduceLeDiff, ↓reduceIte, reduceCtorEq, ↓String.reduceEq, String.reduceNe, Int.reduceToNat, Int.reduceLT, Int.reduceLE, Int.reduceGT, Int.reduceGE, Int.reduceEq, Int.reduceNe, Int.reduceBEq, Int.reduceBNe, Int.reduceAdd, Int.reduceSub, Int.reduceMul, Int.reduceNeg,  encSc, *]))
    refine CallWP.to (pwrong_spec G false 9 _) ?_
    repeat' (first | exact tf0 ‹_› | exact tf1 ‹_› | exact False.elim ‹_› | (with_reducible refine Al.intro ?_; intro pb hpb; (try simp only [hupd_none'] at hpb); (repeat rcases hpb with ⟨⟨hpx, hpy⟩, hpb⟩)) | with_reducible refine need ?_ | ((with_reducible first | apply frk0 | apply frk1 | apply frk2 | apply frk3 | apply frk4 | apply frk5 | apply frk6 | apply frk7 | apply frk8 | apply frk9) <;> intro h <;> try (exfalso; omega)) | with_reducible refine quiet_and ?_ ?_ | with_reducible refine awp_drawnA mixed (by decide +kernel) ?_ | ((fail_if_success with_reducible refine stp ?_); simp -implicitDefEqProofs only [go_sem, Nat.reduceEqDiff, Nat.reduceAdd, Nat.reduceLT, Nat.reduceMul, Nat.reduceSub, Nat.reduceLeDiff, ↓reduceIte, reduceCtorEq, ↓String.reduceEq, String.reduceNe, Int.reduceToNat, Int.reduceLT, Int.reduceLE, Int.reduceGT, Int.reduceGE, Int.reduceEq, Int.reduceNe, Int.reduceBEq, Int.reduceBNe, Int.reduceAdd, Int.reduceSub, Int.reduceMul, Int.reduceNeg,  *]))
    refine ⟨m, (Sub.refl _).fresh hpb, ?_, rfl⟩
    unfold e3F
    simp [HQ.out]
theorem withF_true {n : Int} (h : withF n 1073741824 = true) : 1 ≤ n ∧ n ≤ 1073741824 := by
  unfold withF at h; simpa using h
theorem withF_false {n : Int} (h : withF n 1073741824 = false) : ¬ (1 ≤ n ∧ n ≤ 1073741824) := by
  intro h2; unfold withF at h; simp [h2.1, h2.2] at h
set_option maxHeartbeats 4000000 in
theorem pcheckE_spec (G : Nat → AVal) (C : List Stm) (hl : C.length < 9223372036854775808) (n : Int) (v : AVal) (m : Heap) (hs : RdS C v m) (K : AVal → Heap → Prop)
    (hK : ∀ k e : Int, e = chkE C n → K (.tuple [.int .i64 k, .int .i64 e]) m) : CallWP Tryz.prog G 16 [v, .int .i64 n] m K := by
  have HK := Hid.mk (And.intro hK hs)
  clear hK
  obtain ⟨L, hL⟩ : ∃ L, L = C.length := ⟨_, rfl⟩
  have H0 := Hid.mk hL
  have ll : (C.map encS).length = L := by rw [List.length_map]; exact hL.symm
  obtain ⟨b, pre, post, N, cap, hw⟩ := hs.ways hL
  have lL : L < 9223372036854775808 := by omega
  obtain ⟨bn, hbn⟩ : ∃ b, withF n 1073741824 = b := ⟨_, rfl⟩
  have HB := Hid.mk hbn
  clear hs hL hl hbn
  rcases hw with ⟨rfl, hz⟩ | ⟨rfl, hb⟩ | rfl
  all_goals (
    by_cases h64 : L ≤ 64
    · have n0 : ¬ (64 : Int) < (L : Int) := by omega
      refine callWP_body Tryz.func16 rfl (N := 60) rfl (rs := [.tmp 4, .tmp 5]) rfl en_16 (of_decide_eq_true rfl) ?_
      repeat' (first | exact tf0 ‹_› | exact tf1 ‹_› | exact False.elim ‹_› | (with_reducible refine Al.intro ?_; intro pb hpb; (try simp only [hupd_none'] at hpb); (repeat rcases hpb with ⟨⟨hpx, hpy⟩, hpb⟩)) | with_reducible refine need ?_ | ((with_reducible first | apply frk0 | apply frk1 | apply frk2 | apply frk3 | apply frk4 | apply frk5 | apply frk6 | apply frk7 | apply frk8 | apply frk9) <;> intro h <;> try (exfalso; omega)) | with_reducible refine quiet_and ?_ ?_ | with_reducible refine awp_drawnA mixed (by decide +kernel) ?_ | ((fail_if_success with_reducible refine stp ?_); simp -implicitDefEqProofs only [go_sem, Nat.reduceEqDiff, Nat.reduceAdd, Nat.reduceLT, Nat.reduceMul, Nat.reduceSub, Nat.reduceLeDiff, ↓reduceIte, reduceCtorEq, ↓String.reduceEq, String.reduceNe, Int.reduceToNat, Int.reduceLT, Int.reduceLE, Int.reduceGT, Int.reduceGE, Int.reduceEq, Int.reduceNe, Int.reduceBEq, Int.reduceBNe, Int.reduceAdd, Int.reduceSub, Int.reduceMul, Int.reduceNeg,  *]))
      rename_i p2 e2
      refine CallWP.to (pwithin_spec G _ _ _) ?_
      rw [HB.out]
      cases bn with
      | false =>
        have hno : Hid (¬ (1 ≤ n ∧ n ≤ 1073741824)) := .mk (withF_false HB.out)
        repeat' (first | exact tf0 ‹_› | exact tf1 ‹_› | exact False.elim ‹_› | (with_reducible refine Al.intro ?_; intro pb hpb; (try simp only [hupd_none'] at hpb); (repeat rcases hpb with ⟨⟨hpx, hpy⟩, hpb⟩)) | with_reducible refine need ?_ | ((with_reducible first | apply frk0 | apply frk1 | apply frk2 | apply frk3 | apply frk4 | apply frk5 | apply frk6 | apply frk7 | apply frk8 | apply frk9) <;> intro h <;> try (exfalso; omega)) | with_reducible refine quiet_and ?_ ?_ | with_reducible refine awp_drawnA mixed (by decide +kernel) ?_ | ((fail_if_success with_reducible refine stp ?_); simp -implicitDefEqProofs only [go_sem, Nat.reduceEqDiff, Nat.reduceAdd, Nat.reduceLT, Nat.reduceMul, Nat.reduceSub, Nat.reduceLeDiff, ↓reduceIte, reduceCtorEq, ↓String.reduceEq, String.reduceNe, Int.reduceToNat, Int.reduceLT, Int.reduceLE, Int.reduceGT, Int.reduceGE, Int.reduceEq, Int.reduceNe, Int.reduceBEq, Int.reduceBNe, Int.reduceAdd, Int.reduceSub, Int.reduceMul, Int.reduceNeg,  *]))
        exact ⟨m, ((Sub.refl _).fresh e2).fresh hpb, HK.out.1 0 1 (chkE_n (by have := H0.out; omega) hno.out)⟩
      | true =>
        have hC64 : C.length ≤ 64 := by rw [← H0.out]; exact h64
        have H64 := Hid.mk hC64
        clear hC64 h64
        repeat' (first | exact tf0 ‹_› | exact tf1 ‹_› | exact False.elim ‹_› | (with_reducible refine Al.intro ?_; intro pb hpb; (try simp only [hupd_none'] at hpb); (repeat rcases hpb with ⟨⟨hpx, hpy⟩, hpb⟩)) | with_reducible refine need ?_ | ((with_reducible first | apply frk0 | apply frk1 | apply frk2 | apply frk3 | apply frk4 | apply frk5 | apply frk6 | apply frk7 | apply frk8 | apply frk9) <;> intro h <;> try (exfalso; omega)) | with_reducible refine quiet_and ?_ ?_ | with_reducible refine awp_drawnA mixed (by decide +kernel) ?_ | ((fail_if_success with_reducible refine stp ?_); simp -implicitDefEqProofs only [go_sem, Nat.reduceEqDiff, Nat.reduceAdd, Nat.reduceLT, Nat.reduceMul, Nat.reduceSub, Nat.reduceLeDiff, ↓reduceIte, reduceCtorEq, ↓String.reduceEq, String.reduceNe, Int.reduceToNat, Int.reduceLT, Int.reduceLE, Int.reduceGT, Int.reduceGE, Int.reduceEq, Int.reduceNe, Int.reduceBEq, Int.reduceBNe, Int.reduceAdd, Int.reduceSub, Int.reduceMul, Int.reduceNeg,  *]))
        refine pall_spec G C _ 41 [] _ (HK.out.2.into (((Sub.refl _).fresh e2).fresh hpb)) _ (fun pv pf m1 s1 k1 k2 => ?_)
        have q2 := s1 p2 _ (by rw [hupd_ne (by assumption), hupd_at, if_pos rfl])
        have q3 := s1 pb _ (by rw [hupd_at, if_pos rfl])
        have sm : Sub m m1 := fun y z h => s1 _ _ ((((Sub.refl _).fresh e2).fresh hpb) _ _ h)
        have HM := Hid.mk (And.intro sm (And.intro k1 k2))
        generalize pb = p3 at *
        clear sm k1 k2 s1 e2 hpb hpx hpy
        repeat' (first | exact tf0 ‹_› | exact tf1 ‹_› | exact False.elim ‹_› | (with_reducible refine Al.intro ?_; intro pb hpb; (try simp only [hupd_none'] at hpb); (repeat rcases hpb with ⟨⟨hpx, hpy⟩, hpb⟩)) | with_reducible refine need ?_ | ((with_reducible first | apply frk0 | apply frk1 | apply frk2 | apply frk3 | apply frk4 | apply frk5 | apply frk6 | apply frk7 | apply frk8 | apply frk9) <;> intro h <;> try (exfalso; omega)) | with_reducible refine quiet_and ?_ ?_ | with_reducible refine awp_drawnA mixed (by decide +kernel) ?_ | ((fail_if_success with_reducible refine stp ?_); simp -implicitDefEqProofs only [go_sem, Nat.reduceEqDiff, Nat.reduceAdd, Nat.reduceLT, Nat.reduceMul, Nat.reduceSub, Nat.reduceLeDiff, ↓reduceIte, reduceCtorEq, ↓String.reduceEq, String.reduceNe, Int.reduceToNat, Int.reduceLT, Int.reduceLE, Int.reduceGT, Int.reduceGE, Int.reduceEq, Int.reduceNe, Int.reduceBEq, Int.reduceBNe, Int.reduceAdd, Int.reduceSub, Int.reduceMul, Int.reduceNeg,  *]))
        refine pfirst_spec G C (by have := H64.out; omega) _ 41 [] (fun i => rightS (C.getD i default)) _ HM.out.2.1 HM.out.2.2 (HK.out.2.into HM.out.1) (fun i hi m' hm' => pc1_spec G _ _ m') (fun r1 => ?_) (fun i hi he hj => ?_)
        · have R1 := Hid.mk r1
          clear r1
          repeat' (first | exact tf0 ‹_› | exact tf1 ‹_› | exact False.elim ‹_› | (with_reducible refine Al.intro ?_; intro pb hpb; (try simp only [hupd_none'] at hpb); (repeat rcases hpb with ⟨⟨hpx, hpy⟩, hpb⟩)) | with_reducible refine need ?_ | ((with_reducible first | apply frk0 | apply frk1 | apply frk2 | apply frk3 | apply frk4 | apply frk5 | apply frk6 | apply frk7 | apply frk8 | apply frk9) <;> intro h <;> try (exfalso; omega)) | with_reducible refine quiet_and ?_ ?_ | with_reducible refine awp_drawnA mixed (by decide +kernel) ?_ | ((fail_if_success with_reducible refine stp ?_); simp -implicitDefEqProofs only [go_sem, Nat.reduceEqDiff, Nat.reduceAdd, Nat.reduceLT, Nat.reduceMul, Nat.reduceSub, Nat.reduceLeDiff, ↓reduceIte, reduceCtorEq, ↓String.reduceEq, String.reduceNe, Int.reduceToNat, Int.reduceLT, Int.reduceLE, Int.reduceGT, Int.reduceGE, Int.reduceEq, Int.reduceNe, Int.reduceBEq, Int.reduceBNe, Int.reduceAdd, Int.reduceSub, Int.reduceMul, Int.reduceNeg,  *]))
          refine pall_spec G C _ 43 [.ptr p2 0] _ (HK.out.2.into HM.out.1) _ (fun pv pf m2 s1 k1 k2 => ?_)
          have q2 := s1 _ _ q2
          have q3 := s1 _ _ q3
          have sm : Sub m m2 := fun y z h => s1 _ _ (HM.out.1 _ _ h)
          have HM := Hid.mk (And.intro sm (And.intro k1 k2))
          clear sm k1 k2 s1
          repeat' (first | exact tf0 ‹_› | exact tf1 ‹_› | exact False.elim ‹_› | (with_reducible refine Al.intro ?_; intro pb hpb; (try simp only [hupd_none'] at hpb); (repeat rcases hpb with ⟨⟨hpx, hpy⟩, hpb⟩)) | with_reducible refine need ?_ | ((with_reducible first | apply frk0 | apply frk1 | apply frk2 | apply frk3 | apply frk4 | apply frk5 | apply frk6 | apply frk7 | apply frk8 | apply frk9) <;> intro h <;> try (exfalso; omega)) | with_reducible refine quiet_and ?_ ?_ | with_reducible refine awp_drawnA mixed (by decide +kernel) ?_ | ((fail_if_success with_reducible refine stp ?_); simp -implicitDefEqProofs only [go_sem, Nat.reduceEqDiff, Nat.reduceAdd, Nat.reduceLT, Nat.reduceMul, Nat.reduceSub, Nat.reduceLeDiff, ↓reduceIte, reduceCtorEq, ↓String.reduceEq, String.reduceNe, Int.reduceToNat, Int.reduceLT, Int.reduceLE, Int.reduceGT, Int.reduceGE, Int.reduceEq, Int.reduceNe, Int.reduceBEq, Int.reduceBNe, Int.reduceAdd, Int.reduceSub, Int.reduceMul, Int.reduceNeg,  *]))
          refine pfirst_spec G C (by have := H64.out; omega) _ 43 [.ptr p2 0] (e2F C) _ HM.out.2.1 HM.out.2.2 (HK.out.2.into HM.out.1) (fun i hi m' hm' => pc2_spec G C (by have := H64.out; omega) _ i p2 m' ((HK.out.2.into HM.out.1).into hm') (hm' _ _ q2)) (fun r2 => ?_) (fun i hi he hj => ?_)
          · have R2 := Hid.mk r2
            clear r2
            repeat' (first | exact tf0 ‹_› | exact tf1 ‹_› | exact False.elim ‹_› | (with_reducible refine Al.intro ?_; intro pb hpb; (try simp only [hupd_none'] at hpb); (repeat rcases hpb with ⟨⟨hpx, hpy⟩, hpb⟩)) | with_reducible refine need ?_ | ((with_reducible first | apply frk0 | apply frk1 | apply frk2 | apply frk3 | apply frk4 | apply frk5 | apply frk6 | apply frk7 | apply frk8 | apply frk9) <;> intro h <;> try (exfalso; omega)) | with_reducible refine quiet_and ?_ ?_ | with_reducible refine awp_drawnA mixed (by decide +kernel) ?_ | ((fail_if_success with_reducible refine stp ?_); simp -implicitDefEqProofs only [go_sem, Nat.reduceEqDiff, Nat.reduceAdd, Nat.reduceLT, Nat.reduceMul, Nat.reduceSub, Nat.reduceLeDiff, ↓reduceIte, reduceCtorEq, ↓String.reduceEq, String.reduceNe, Int.reduceToNat, Int.reduceLT, Int.reduceLE, Int.reduceGT, Int.reduceGE, Int.reduceEq, Int.reduceNe, Int.reduceBEq, Int.reduceBNe, Int.reduceAdd, Int.reduceSub, Int.reduceMul, Int.reduceNeg,  *]))
            refine pall_spec G C _ 45 [.ptr p3 0] _ (HK.out.2.into HM.out.1) _ (fun pv pf m3 s1 k1 k2 => ?_)
            have q2 := s1 _ _ q2
            have q3 := s1 _ _ q3
            have sm : Sub m m3 := fun y z h => s1 _ _ (HM.out.1 _ _ h)
            have HM := Hid.mk (And.intro sm (And.intro k1 k2))
            clear sm k1 k2 s1
            repeat' (first | exact tf0 ‹_› | exact tf1 ‹_› | exact False.elim ‹_› | (with_reducible refine Al.intro ?_; intro pb hpb; (try simp only [hupd_none'] at hpb); (repeat rcases hpb with ⟨⟨hpx, hpy⟩, hpb⟩)) | with_reducible refine need ?_ | ((with_reducible first | apply frk0 | apply frk1 | apply frk2 | apply frk3 | apply frk4 | apply frk5 | apply frk6 | apply frk7 | apply frk8 | apply frk9) <;> intro h <;> try (exfalso; omega)) | with_reducible refine quiet_and ?_ ?_ | with_reducible refine awp_drawnA mixed (by decide +kernel) ?_ | ((fail_if_success with_reducible refine stp ?_); simp -implicitDefEqProofs only [go_sem, Nat.reduceEqDiff, Nat.reduceAdd, Nat.reduceLT, Nat.reduceMul, Nat.reduceSub, Nat.reduceLeDiff, ↓reduceIte, reduceCtorEq, ↓String.reduceEq, String.reduceNe, Int.reduceToNat, Int.reduceLT, Int.reduceLE, Int.reduceGT, Int.reduceGE, Int.reduceEq, Int.reduceNe, Int.reduceBEq, Int.reduceBNe, Int.reduceAdd, Int.reduceSub, Int.reduceMul, Int.reduceNeg,  *]))
            refine pfirst_spec G C (by have := H64.out; omega) _ 45 [.ptr p3 0] (fun i => e3F n (C.getD i default)) _ HM.out.2.1 HM.out.2.2 (HK.out.2.into HM.out.1) (fun i hi m' hm' => pc3_spec G _ _ n p3 m' (hm' _ _ q3)) (fun r3 => ?_) (fun i hi he hj => ?_)
            · have R3 := Hid.mk r3
              clear r3
              repeat' (first | exact tf0 ‹_› | exact tf1 ‹_› | exact False.elim ‹_› | (with_reducible refine Al.intro ?_; intro pb hpb; (try simp only [hupd_none'] at hpb); (repeat rcases hpb with ⟨⟨hpx, hpy⟩, hpb⟩)) | with_reducible refine need ?_ | ((with_reducible first | apply frk0 | apply frk1 | apply frk2 | apply frk3 | apply frk4 | apply frk5 | apply frk6 | apply frk7 | apply frk8 | apply frk9) <;> intro h <;> try (exfalso; omega)) | with_reducible refine quiet_and ?_ ?_ | with_reducible refine awp_drawnA mixed (by decide +kernel) ?_ | ((fail_if_success with_reducible refine stp ?_); simp -implicitDefEqProofs only [go_sem, Nat.reduceEqDiff, Nat.reduceAdd, Nat.reduceLT, Nat.reduceMul, Nat.reduceSub, Nat.reduceLeDiff, ↓reduceIte, reduceCtorEq, ↓String.reduceEq, String.reduceNe, Int.reduceToNat, Int.reduceLT, Int.reduceLE, Int.reduceGT, Int.reduceGE, Int.reduceEq, Int.reduceNe, Int.reduceBEq, Int.reduceBNe, Int.reduceAdd, Int.reduceSub, Int.reduceMul, Int.reduceNeg,  *]))
              exact ⟨m, HM.out.1, HK.out.1 _ 0 (chkE_0 H64.out (withF_true HB.out) R1.out R2.out R3.out)⟩
            · obtain ⟨e, he2⟩ : ∃ e, e = e3F n (C.getD i default) := ⟨_, rfl⟩
              rw [← he2] at he ⊢
              have hb3 : (e != 0) = true := by simpa using he
              have HE := Hid.mk (And.intro hi (And.intro he (And.intro he2 hj)))
              clear hi he he2 hj
              repeat' (first | exact tf0 ‹_› | exact tf1 ‹_› | exact False.elim ‹_› | (with_reducible refine Al.intro ?_; intro pb hpb; (try simp only [hupd_none'] at hpb); (repeat rcases hpb with ⟨⟨hpx, hpy⟩, hpb⟩)) | with_reducible refine need ?_ | ((with_reducible first | apply frk0 | apply frk1 | apply frk2 | apply frk3 | apply frk4 | apply frk5 | apply frk6 | apply frk7 | apply frk8 | apply frk9) <;> intro h <;> try (exfalso; omega)) | with_reducible refine quiet_and ?_ ?_ | with_reducible refine awp_drawnA mixed (by decide +kernel) ?_ | ((fail_if_success with_reducible refine stp ?_); simp -implicitDefEqProofs only [go_sem, Nat.reduceEqDiff, Nat.reduceAdd, Nat.reduceLT, Nat.reduceMul, Nat.reduceSub, Nat.reduceLeDiff, ↓reduceIte, reduceCtorEq, ↓String.reduceEq, String.reduceNe, Int.reduceToNat, Int.reduceLT, Int.reduceLE, Int.reduceGT, Int.reduceGE, Int.reduceEq, Int.reduceNe, Int.reduceBEq, Int.reduceBNe, Int.reduceAdd, Int.reduceSub, Int.reduceMul, Int.reduceNeg,  *]))
              exact ⟨m, HM.out.1, HK.out.1 _ _ (by rw [HE.out.2.2.1]; exact chkE_3 H64.out (withF_true HB.out) R1.out R2.out HE.out.1 HE.out.2.2.2 (by rw [← HE.out.2.2.1]; exact HE.out.2.1))⟩
          · obtain ⟨e, he2⟩ : ∃ e, e = e2F C i := ⟨_, rfl⟩
            rw [← he2] at he ⊢
            have hb3 : (e != 0) = true := by simpa using he
            have HE := Hid.mk (And.intro hi (And.intro he (And.intro he2 hj)))
            clear hi he he2 hj
            repeat' (first | exact tf0 ‹_› | exact tf1 ‹_› | exact False.elim ‹_› | (with_reducible refine Al.intro ?_; intro pb hpb; (try simp only [hupd_none'] at hpb); (repeat rcases hpb with ⟨⟨hpx, hpy⟩, hpb⟩)) | with_reducible refine need ?_ | ((with_reducible first | apply frk0 | apply frk1 | apply frk2 | apply frk3 | apply frk4 | apply frk5 | apply frk6 | apply frk7 | apply frk8 | apply frk9) <;> intro h <;> try (exfalso; omega)) | with_reducible refine quiet_and ?_ ?_ | with_reducible refine awp_drawnA mixed (by decide +kernel) ?_ | ((fail_if_success with_reducible refine stp ?_); simp -implicitDefEqProofs only [go_sem, Nat.reduceEqDiff, Nat.reduceAdd, Nat.reduceLT, Nat.reduceMul, Nat.reduceSub, Nat.reduceLeDiff, ↓reduceIte, reduceCtorEq, ↓String.reduceEq, String.reduceNe, Int.reduceToNat, Int.reduceLT, Int.reduceLE, Int.reduceGT, Int.reduceGE, Int.reduceEq, Int.reduceNe, Int.reduceBEq, Int.reduceBNe, Int.reduceAdd, Int.reduceSub, Int.reduceMul, Int.reduceNeg,  *]))
            exact ⟨m, HM.out.1, HK.out.1 _ _ (by rw [HE.out.2.2.1]; exact chkE_2 H64.out (withF_true HB.out) R1.out HE.out.1 HE.out.2.2.2 (by rw [← HE.out.2.2.1]; exact HE.out.2.1))⟩
        · obtain ⟨e, he2⟩ : ∃ e, e = rightS (C.getD i default) := ⟨_, rfl⟩
          rw [← he2] at he ⊢
          have hb3 : (e != 0) = true := by simpa using he
          have HE := Hid.mk (And.intro hi (And.intro he (And.intro he2 hj)))
          clear hi he he2 hj
          repeat' (first | exact tf0 ‹_› | exact tf1 ‹_› | exact False.elim ‹_› | (with_reducible refine Al.intro ?_; intro pb hpb; (try simp only [hupd_none'] at hpb); (repeat rcases hpb with ⟨⟨hpx, hpy⟩, hpb⟩)) | with_reducible refine need ?_ | ((with_reducible first | apply frk0 | apply frk1 | apply frk2 | apply frk3 | apply frk4 | apply frk5 | apply frk6 | apply frk7 | apply frk8 | apply frk9) <;> intro h <;> try (exfalso; omega)) | with_reducible refine quiet_and ?_ ?_ | with_reducible refine awp_drawnA mixed (by decide +kernel) ?_ | ((fail_if_success with_reducible refine stp ?_); simp -implicitDefEqProofs only [go_sem, Nat.reduceEqDiff, Nat.reduceAdd, Nat.reduceLT, Nat.reduceMul, Nat.reduceSub, Nat.reduceLeDiff, ↓reduceIte, reduceCtorEq, ↓String.reduceEq, String.reduceNe, Int.reduceToNat, Int.reduceLT, Int.reduceLE, Int.reduceGT, Int.reduceGE, Int.reduceEq, Int.reduceNe, Int.reduceBEq, Int.reduceBNe, Int.reduceAdd, Int.reduceSub, Int.reduceMul, Int.reduceNeg,  *]))
          exact ⟨m, HM.out.1, HK.out.1 _ _ (by rw [HE.out.2.2.1]; exact chkE_1 H64.out (withF_true HB.out) HE.out.1 HE.out.2.2.2 (by rw [← HE.out.2.2.1]; exact HE.out.2.1))⟩
    · have n0 : (64 : Int) < (L : Int) := by omega
      (try (exfalso; omega)) <;> (
      have hno : Hid (¬ C.length ≤ 64) := .mk (fun h => h64 (by rw [H0.out]; exact h))
      refine callWP_body Tryz.func16 rfl (N := 60) rfl (rs := [.tmp 4, .tmp 5]) rfl en_16 (of_decide_eq_true rfl) ?_
      repeat' (first | exact tf0 ‹_› | exact tf1 ‹_› | exact False.elim ‹_› | (with_reducible refine Al.intro ?_; intro pb hpb; (try simp only [hupd_none'] at hpb); (repeat rcases hpb with ⟨⟨hpx, hpy⟩, hpb⟩)) | with_reducible refine need ?_ | ((with_reducible first | apply frk0 | apply frk1 | apply frk2 | apply frk3 | apply frk4 | apply frk5 | apply frk6 | apply frk7 | apply frk8 | apply frk9) <;> intro h <;> try (exfalso; omega)) | with_reducible refine quiet_and ?_ ?_ | with_reducible refine awp_drawnA mixed (by decide +kernel) ?_ | ((fail_if_success with_reducible refine stp ?_); simp -implicitDefEqProofs only [go_sem, Nat.reduceEqDiff, Nat.reduceAdd, Nat.reduceLT, Nat.reduceMul, Nat.reduceSub, Nat.reduceLeDiff, ↓reduceIte, reduceCtorEq, ↓String.reduceEq, String.reduceNe, Int.reduceToNat, Int.reduceLT, Int.reduceLE, Int.reduceGT, Int.reduceGE, Int.reduceEq, Int.reduceNe, Int.reduceBEq, Int.reduceBNe, Int.reduceAdd, Int.reduceSub, Int.reduceMul, Int.reduceNeg,  *]))
      all_goals exact ⟨m, ((Sub.refl _).fresh (by assumption)).fresh hpb, HK.out.1 0 11 (chkE_len hno.out)⟩))
theorem pcheck_spec (G : Nat → AVal) (C : List Stm) (hl : C.length < 9223372036854775808) (n : Int) (v : AVal) (m : Heap) (hs : RdS C v m) (K : AVal → Heap → Prop)
    (hK : ∀ k e : Int, (e = 0 ↔ rightC C n) → K (.tuple [.int .i64 k, .int .i64 e]) m) : CallWP Tryz.prog G 16 [v, .int .i64 n] m K :=
  pcheckE_spec G C hl n v m hs K fun k e he => hK k e (by rw [he]; exact chkE_iff C n)
end Go.Proofs.YtdckcophbmnjjaaGreatDoor
