/- The library's stable sort: the merge of a last one. -/
import Derived.Test.YtmifapnmlhchlaaE7
set_option linter.all false
namespace Go.Proofs.Ytmifapnmlhchlaa
open Go Go.Proofs.Ytmifapnmlhchlaa.Ab
open Go.Proofs (Try.prog)
set_option maxRecDepth 100000
set_option maxHeartbeats 2000000 in
theorem merge_last (G : Nat → AVal) (X A Y : List Wt) (w : Wt) (hA : A.Pairwise RT) (hw : ∀ v ∈ A, pT v < pT w) (hA2 : 2 ≤ A.length) (hl : (X ++ (A ++ (w :: Y))).length ≤ 1000) (pre post : List AVal) (N pb L cap a c b : Nat) (ha : a = X.length) (hc : c = X.length + A.length) (hb : b = X.length + A.length + 1) (hL : L = (X ++ (A ++ (w :: Y))).length)
    (m : Heap) (K : AVal → Heap → Prop) (hm : m pb = some (rowB pre post N (X ++ (A ++ (w :: Y)))))
    (hK : ∀ S : List Wt, S.Pairwise RT → S.Perm (A ++ [w]) → K (.tuple []) (hupd m pb (rowB pre post N (X ++ (S ++ Y))))) : CallWP Try.prog G 75 [.slice pb pre.length L cap, .int .i64 a, .int .i64 c, .int .i64 b, cameV] m K := by
  have HK := Hid.mk hK
  have HM := Hid.mk hm
  have H0 := Hid.mk (And.intro hA (And.intro hw (And.intro ha (And.intro hc (And.intro hb (And.intro hL (And.intro hl hA2)))))))
  have w1 : IntKind.i64.wrap ((c : Int) - (a : Int)) = (A.length : Int) := by simp only [List.length_append, List.length_cons] at hl; rw [wrap_i64 (by omega) (by omega)]; omega
  have ne1 : ¬ (A.length : Int) = 1 := by omega
  have w2 : IntKind.i64.wrap ((b : Int) - (c : Int)) = 1 := by simp only [List.length_append, List.length_cons] at hl; rw [wrap_i64 (by omega) (by omega)]; omega
  have HL : b ≤ L ∧ L ≤ 1000 := by simp only [List.length_append, List.length_cons] at hl hL; omega
  have hlen := HL.1
  have hlen2 := HL.2
  have hcb : c < b := by omega
  clear hK ha hb hL hl hc hA hw HL hA2
  refine callWP_body Try.func75 rfl (N := 220) rfl (rs := []) rfl en_75 (of_decide_eq_true rfl) ?_
  repeat' (first | exact tf0 ‹_› | exact tf1 ‹_› | exact False.elim ‹_› | (with_reducible refine Al.intro ?_; intro pb hpb; (try simp only [hupd_none'] at hpb); (repeat rcases hpb with ⟨⟨hpx, hpy⟩, hpb⟩)) | with_reducible refine need ?_ | ((with_reducible first | refine frk0 ?_ ?_ | refine frk1 ?_ ?_ | refine frk2 ?_ ?_ | refine frk3 ?_ ?_ | refine frk4 ?_ ?_ | refine frk5 ?_ ?_ | refine frk6 ?_ ?_ | refine frk7 ?_ ?_ | refine frk8 ?_ ?_ | refine frk9 ?_ ?_) <;> intro h <;> try (exfalso; omega)) | with_reducible refine quiet_and ?_ ?_ | with_reducible refine awp_drawnA mixed (by decide +kernel) ?_ | ((fail_if_success with_reducible refine stp ?_); simp -implicitDefEqProofs only [go_sem, Nat.reduceEqDiff, Nat.reduceAdd, Nat.reduceLT, Nat.reduceMul, Nat.reduceSub, Nat.reduceLeDiff, ↓reduceIte, reduceCtorEq, ↓String.reduceEq, String.reduceNe, Int.reduceToNat, Int.reduceLT, Int.reduceLE, Int.reduceGT, Int.reduceGE, Int.reduceEq, Int.reduceNe, Int.reduceBEq, Int.reduceBNe, Int.reduceAdd, Int.reduceSub, Int.reduceMul, Int.reduceNeg,  *]))
  refine awp_loopP 4 (fun ts m2 => ∃ q : Nat, Hid (q ≤ A.length ∧ (q = 0 ∨ kT (A.getD (q - 1) default) ≤ kT w) ∧ (q = A.length ∨ kT w < kT (A.getD q default))) ∧ ts 0 = .slice pb pre.length L cap ∧ ts 2 = .int .i64 c ∧ ts 14 = .int .i64 ((a + q : Nat) : Int) ∧ m2 = m)
    (fun k ts m2 => ∃ i j : Nat, Hid (k = j - i ∧ i ≤ j ∧ j ≤ A.length ∧ (i = 0 ∨ kT (A.getD (i - 1) default) ≤ kT w) ∧ (j = A.length ∨ kT w < kT (A.getD j default))) ∧ ts 0 = .slice pb pre.length L cap ∧ ts 2 = .int .i64 c ∧ ts 4 = cameV ∧ ts 14 = .int .i64 ((a + i : Nat) : Int) ∧ ts 15 = .int .i64 ((a + j : Nat) : Int) ∧ m2 = m) A.length
    ⟨0, A.length, .mk ⟨rfl, Nat.zero_le _, Nat.le_refl _, .inl rfl, .inl rfl⟩, ttt, ttt, ttt, ttt, by have q := H0.out; rw [show a + A.length = c by omega]; exact (ttt), rfl⟩ ?_ ?_
  · rintro k ts m2 ⟨i, j, H, t0, t2, t4, t14, t15, hm2⟩
    subst m2
    by_cases hij : i < j
    · have lt : ((a + i : Nat) : Int) < ((a + j : Nat) : Int) := by omega
      have hcj : a + j ≤ c := by have h := H.out; have q := H0.out; omega
      have w3 : IntKind.i64.wrap (((a + i : Nat) : Int) + ((a + j : Nat) : Int)) = ((a + i + (a + j) : Nat) : Int) := by rw [wrap_i64 (by omega) (by omega)]; omega
      obtain ⟨h, hh⟩ : ∃ h, h = (i + j) / 2 := ⟨_, rfl⟩
      have hh1 : i ≤ h := by omega
      have hh2 : h < j := by omega
      have w4 := half_u (a + i + (a + j)) (by omega)
      have w5 := half_s (a + i + (a + j)) (a + h) (by omega)
      have w6 := i64_nat (a + h) (by omega)
      have w7 : IntKind.i64.wrap (((a + h : Nat) : Int) + 1) = ((a + (h + 1) : Nat) : Int) := by rw [wrap_i64 (by omega) (by omega)]; omega
      have hhA : h < A.length := by have q := H.out; omega
      obtain ⟨x, hx⟩ : ∃ x, A.getD h default = x := ⟨_, rfl⟩
      obtain ⟨C, hC⟩ : ∃ C, C = X ++ (A ++ (w :: Y)) := ⟨_, rfl⟩
      have hA1 := cut_at A h hhA
      rw [hx] at hA1
      obtain ⟨g1, l1⟩ := rd (C := C) (P := X ++ A) (Q := Y) (x := w) (by rw [hC]; simp) pre post (i := c) (by have q := H0.out; simp only [List.length_append]; omega)
      obtain ⟨g2, l2⟩ := rd (C := C) (P := X ++ A.take h) (Q := A.drop (h + 1) ++ (w :: Y)) (x := x) (by rw [hC]; conv => lhs; rw [hA1]
                                                                                                         simp) pre post (i := a + h) (by have q := H0.out; simp only [List.length_append, List.length_take]; omega)
      rw [← hC] at hm
      have hcL : c < L := by omega
      have haL : a + h < L := by omega
      have HX := Hid.mk hx
      clear HM hC hA1 hh hx
      repeat' (first | exact tf0 ‹_› | exact tf1 ‹_› | exact False.elim ‹_› | (with_reducible refine Al.intro ?_; intro pb hpb; (try simp only [hupd_none'] at hpb); (repeat rcases hpb with ⟨⟨hpx, hpy⟩, hpb⟩)) | with_reducible refine need ?_ | ((with_reducible first | refine frk0 ?_ ?_ | refine frk1 ?_ ?_ | refine frk2 ?_ ?_ | refine frk3 ?_ ?_ | refine frk4 ?_ ?_ | refine frk5 ?_ ?_ | refine frk6 ?_ ?_ | refine frk7 ?_ ?_ | refine frk8 ?_ ?_ | refine frk9 ?_ ?_) <;> intro h <;> try (exfalso; omega)) | with_reducible refine quiet_and ?_ ?_ | with_reducible refine awp_drawnA mixed (by decide +kernel) ?_ | ((fail_if_success with_reducible refine stp ?_); simp -implicitDefEqProofs only [go_sem, Nat.reduceEqDiff, Nat.reduceAdd, Nat.reduceLT, Nat.reduceMul, Nat.reduceSub, Nat.reduceLeDiff, ↓reduceIte, reduceCtorEq, ↓String.reduceEq, String.reduceNe, Int.reduceToNat, Int.reduceLT, Int.reduceLE, Int.reduceGT, Int.reduceGE, Int.reduceEq, Int.reduceNe, Int.reduceBEq, Int.reduceBNe, Int.reduceAdd, Int.reduceSub, Int.reduceMul, Int.reduceNeg,  rowB, *]))
      refine CallWP.to (came_spec G w x _) ?_
      by_cases hk : kT w < kT x
      · have cl : cmpI w.1.2.1 x.1.2.1 < 0 := (of_decide_eq_true ((cmp_lt _ _).trans (decide_eq_true hk)))
        repeat' (first | exact tf0 ‹_› | exact tf1 ‹_› | exact False.elim ‹_› | (with_reducible refine Al.intro ?_; intro pb hpb; (try simp only [hupd_none'] at hpb); (repeat rcases hpb with ⟨⟨hpx, hpy⟩, hpb⟩)) | with_reducible refine need ?_ | ((with_reducible first | refine frk0 ?_ ?_ | refine frk1 ?_ ?_ | refine frk2 ?_ ?_ | refine frk3 ?_ ?_ | refine frk4 ?_ ?_ | refine frk5 ?_ ?_ | refine frk6 ?_ ?_ | refine frk7 ?_ ?_ | refine frk8 ?_ ?_ | refine frk9 ?_ ?_) <;> intro h <;> try (exfalso; omega)) | with_reducible refine quiet_and ?_ ?_ | with_reducible refine awp_drawnA mixed (by decide +kernel) ?_ | ((fail_if_success with_reducible refine stp ?_); simp -implicitDefEqProofs only [go_sem, Nat.reduceEqDiff, Nat.reduceAdd, Nat.reduceLT, Nat.reduceMul, Nat.reduceSub, Nat.reduceLeDiff, ↓reduceIte, reduceCtorEq, ↓String.reduceEq, String.reduceNe, Int.reduceToNat, Int.reduceLT, Int.reduceLE, Int.reduceGT, Int.reduceGE, Int.reduceEq, Int.reduceNe, Int.reduceBEq, Int.reduceBNe, Int.reduceAdd, Int.reduceSub, Int.reduceMul, Int.reduceNeg,  rowB, *]))
        exact Again.intro ⟨h - i, by have := H.out; omega, _, Sub.refl _, i, h, .mk ⟨rfl, by omega, by omega, H.out.2.2.2.1, .inr (by rw [HX.out]; omega)⟩, (by first | (simp only [upd, put, Nat.reduceEqDiff, ↓reduceIte, t0]; done) | (simp [upd, put, t0]; done) | rfl | (simp [upd, put, t0]; rfl)), (by first | (simp only [upd, put, Nat.reduceEqDiff, ↓reduceIte, t2]; done) | (simp [upd, put, t2]; done) | rfl | (simp [upd, put, t2]; rfl)), (by first | (simp only [upd, put, Nat.reduceEqDiff, ↓reduceIte, t4]; done) | (simp [upd, put, t4]; done) | rfl | (simp [upd, put, t4]; rfl)), (by first | (simp only [upd, put, Nat.reduceEqDiff, ↓reduceIte, t14]; done) | (simp [upd, put, t14]; done) | rfl | (simp [upd, put, t14]; rfl)), ttt, rfl⟩
      · have cl : ¬ cmpI w.1.2.1 x.1.2.1 < 0 := (of_decide_eq_false ((cmp_lt _ _).trans (decide_eq_false hk)))
        repeat' (first | exact tf0 ‹_› | exact tf1 ‹_› | exact False.elim ‹_› | (with_reducible refine Al.intro ?_; intro pb hpb; (try simp only [hupd_none'] at hpb); (repeat rcases hpb with ⟨⟨hpx, hpy⟩, hpb⟩)) | with_reducible refine need ?_ | ((with_reducible first | refine frk0 ?_ ?_ | refine frk1 ?_ ?_ | refine frk2 ?_ ?_ | refine frk3 ?_ ?_ | refine frk4 ?_ ?_ | refine frk5 ?_ ?_ | refine frk6 ?_ ?_ | refine frk7 ?_ ?_ | refine frk8 ?_ ?_ | refine frk9 ?_ ?_) <;> intro h <;> try (exfalso; omega)) | with_reducible refine quiet_and ?_ ?_ | with_reducible refine awp_drawnA mixed (by decide +kernel) ?_ | ((fail_if_success with_reducible refine stp ?_); simp -implicitDefEqProofs only [go_sem, Nat.reduceEqDiff, Nat.reduceAdd, Nat.reduceLT, Nat.reduceMul, Nat.reduceSub, Nat.reduceLeDiff, ↓reduceIte, reduceCtorEq, ↓String.reduceEq, String.reduceNe, Int.reduceToNat, Int.reduceLT, Int.reduceLE, Int.reduceGT, Int.reduceGE, Int.reduceEq, Int.reduceNe, Int.reduceBEq, Int.reduceBNe, Int.reduceAdd, Int.reduceSub, Int.reduceMul, Int.reduceNeg,  rowB, *]))
        exact Again.intro ⟨j - (h + 1), by have := H.out; omega, _, Sub.refl _, h + 1, j, .mk ⟨rfl, by omega, H.out.2.2.1, .inr (by rw [Nat.add_sub_cancel, HX.out]; omega), H.out.2.2.2.2⟩, (by first | (simp only [upd, put, Nat.reduceEqDiff, ↓reduceIte, t0]; done) | (simp [upd, put, t0]; done) | rfl | (simp [upd, put, t0]; rfl)), (by first | (simp only [upd, put, Nat.reduceEqDiff, ↓reduceIte, t2]; done) | (simp [upd, put, t2]; done) | rfl | (simp [upd, put, t2]; rfl)), (by first | (simp only [upd, put, Nat.reduceEqDiff, ↓reduceIte, t4]; done) | (simp [upd, put, t4]; done) | rfl | (simp [upd, put, t4]; rfl)), ttt, (by first | (simp only [upd, put, Nat.reduceEqDiff, ↓reduceIte, t15]; done) | (simp [upd, put, t15]; done) | rfl | (simp [upd, put, t15]; rfl)), rfl⟩
    · have lt : ¬ ((a + i : Nat) : Int) < ((a + j : Nat) : Int) := by omega
      repeat' (first | exact tf0 ‹_› | exact tf1 ‹_› | exact False.elim ‹_› | (with_reducible refine Al.intro ?_; intro pb hpb; (try simp only [hupd_none'] at hpb); (repeat rcases hpb with ⟨⟨hpx, hpy⟩, hpb⟩)) | with_reducible refine need ?_ | ((with_reducible first | refine frk0 ?_ ?_ | refine frk1 ?_ ?_ | refine frk2 ?_ ?_ | refine frk3 ?_ ?_ | refine frk4 ?_ ?_ | refine frk5 ?_ ?_ | refine frk6 ?_ ?_ | refine frk7 ?_ ?_ | refine frk8 ?_ ?_ | refine frk9 ?_ ?_) <;> intro h <;> try (exfalso; omega)) | with_reducible refine quiet_and ?_ ?_ | with_reducible refine awp_drawnA mixed (by decide +kernel) ?_ | ((fail_if_success with_reducible refine stp ?_); simp -implicitDefEqProofs only [go_sem, Nat.reduceEqDiff, Nat.reduceAdd, Nat.reduceLT, Nat.reduceMul, Nat.reduceSub, Nat.reduceLeDiff, ↓reduceIte, reduceCtorEq, ↓String.reduceEq, String.reduceNe, Int.reduceToNat, Int.reduceLT, Int.reduceLE, Int.reduceGT, Int.reduceGE, Int.reduceEq, Int.reduceNe, Int.reduceBEq, Int.reduceBNe, Int.reduceAdd, Int.reduceSub, Int.reduceMul, Int.reduceNeg,  *]))
      exact Again.intro ⟨i, .mk (by
        have h := H.out
        have e : i = j := by omega
        subst e
        exact ⟨h.2.2.1, h.2.2.2.1, h.2.2.2.2⟩), (by first | (simp only [upd, put, Nat.reduceEqDiff, ↓reduceIte, t0]; done) | (simp [upd, put, t0]; done) | rfl | (simp [upd, put, t0]; rfl)), (by first | (simp only [upd, put, Nat.reduceEqDiff, ↓reduceIte, t2]; done) | (simp [upd, put, t2]; done) | rfl | (simp [upd, put, t2]; rfl)), (by first | (simp only [upd, put, Nat.reduceEqDiff, ↓reduceIte, t14]; done) | (simp [upd, put, t14]; done) | rfl | (simp [upd, put, t14]; rfl)), rfl⟩
  · rintro ts m2 ⟨q, H, t0, t2, t14, hm2⟩
    subst m2
    have hq : a + q ≤ c := by have h := H.out; have q := H0.out; omega
    clear hm
    repeat' (first | exact tf0 ‹_› | exact tf1 ‹_› | exact False.elim ‹_› | (with_reducible refine Al.intro ?_; intro pb hpb; (try simp only [hupd_none'] at hpb); (repeat rcases hpb with ⟨⟨hpx, hpy⟩, hpb⟩)) | with_reducible refine need ?_ | ((with_reducible first | refine frk0 ?_ ?_ | refine frk1 ?_ ?_ | refine frk2 ?_ ?_ | refine frk3 ?_ ?_ | refine frk4 ?_ ?_ | refine frk5 ?_ ?_ | refine frk6 ?_ ?_ | refine frk7 ?_ ?_ | refine frk8 ?_ ?_ | refine frk9 ?_ ?_) <;> intro h <;> try (exfalso; omega)) | with_reducible refine quiet_and ?_ ?_ | with_reducible refine awp_drawnA mixed (by decide +kernel) ?_ | ((fail_if_success with_reducible refine stp ?_); simp -implicitDefEqProofs only [go_sem, Nat.reduceEqDiff, Nat.reduceAdd, Nat.reduceLT, Nat.reduceMul, Nat.reduceSub, Nat.reduceLeDiff, ↓reduceIte, reduceCtorEq, ↓String.reduceEq, String.reduceNe, Int.reduceToNat, Int.reduceLT, Int.reduceLE, Int.reduceGT, Int.reduceGE, Int.reduceEq, Int.reduceNe, Int.reduceBEq, Int.reduceBNe, Int.reduceAdd, Int.reduceSub, Int.reduceMul, Int.reduceNeg,  *]))
    refine awp_loopP 6 (fun ts m2 => m2 = hupd m pb (rowB pre post N (X ++ (A.take q ++ (w :: (A.drop q ++ Y))))))
      (fun k ts m2 => ∃ r : Nat, Hid (k = r - q ∧ q ≤ r ∧ r ≤ A.length) ∧ ts 0 = .slice pb pre.length L cap ∧ ts 14 = .int .i64 ((a + q : Nat) : Int) ∧ ts 17 = .int .i64 ((a + r : Nat) : Int) ∧ m2 = hupd m pb (rowB pre post N (X ++ (A.take r ++ (w :: (A.drop r ++ Y)))))) (A.length - q)
      ⟨A.length, .mk ⟨rfl, H.out.1, Nat.le_refl _⟩, (by first | (simp only [upd, put, Nat.reduceEqDiff, ↓reduceIte, t0]; done) | (simp [upd, put, t0]; done) | rfl | (simp [upd, put, t0]; rfl)), (by first | (simp only [upd, put, Nat.reduceEqDiff, ↓reduceIte, t14]; done) | (simp [upd, put, t14]; done) | rfl | (simp [upd, put, t14]; rfl)), by have q := H0.out; rw [show a + A.length = c by omega]; exact ((by first | (simp only [upd, put, Nat.reduceEqDiff, ↓reduceIte, t2]; done) | (simp [upd, put, t2]; done) | rfl | (simp [upd, put, t2]; rfl))), by
        funext x
        by_cases e : x = pb
        · rw [e, hupd_at, if_pos rfl]; simpa using HM.out
        · rw [hupd_ne e]⟩ ?_ ?_
    · rintro k ts m2 ⟨r, H2, t0, t14, t17, hm2⟩
      subst m2
      by_cases hrq : q < r
      · have lt : ((a + q : Nat) : Int) < ((a + r : Nat) : Int) := by omega
        obtain ⟨s, hs⟩ : ∃ s, r = s + 1 := ⟨r - 1, by omega⟩
        subst hs
        have hrA : s < A.length := by have h := H2.out; omega
        obtain ⟨x, hx⟩ : ∃ x, A.getD s default = x := ⟨_, rfl⟩
        obtain ⟨C, hC⟩ : ∃ C, C = X ++ (A.take (s + 1) ++ (w :: (A.drop (s + 1) ++ Y))) := ⟨_, rfl⟩
        obtain ⟨C', hC'⟩ : ∃ C', C' = X ++ (A.take s ++ (w :: (A.drop s ++ Y))) := ⟨_, rfl⟩
        have d1 : A.drop s = x :: A.drop (s + 1) := by rw [← hx]; simp [List.getD_eq_getElem?_getD, hrA]
        have d2 : A.take (s + 1) = A.take s ++ [x] := by rw [← hx, List.take_add_one]; simp [List.getD_eq_getElem?_getD, hrA]
        obtain ⟨g1, g2, l1, l2, -, l3, -, g3⟩ := adj (C := C) (C' := C') (P := X ++ A.take s) (Q := A.drop (s + 1) ++ Y) (x := x) (y := w) (by rw [hC, d2]; simp) (by rw [hC', d1]; simp) pre post (i := a + s) (j := a + (s + 1)) (by have q := H0.out; simp only [List.length_append, List.length_take]; omega) rfl
        rw [← hC]
        have HC' := Hid.mk hC'
        have w3 : IntKind.i64.wrap (((a + (s + 1) : Nat) : Int) - 1) = ((a + s : Nat) : Int) := by have := H0.out; rw [wrap_i64 (by omega) (by omega)]; omega
        have hr1 : a + s < L := by have := H0.out; omega
        have hr2 : a + (s + 1) < L := by have := H0.out; omega
        clear hC hC' d1 d2 hx
        repeat' (first | exact tf0 ‹_› | exact tf1 ‹_› | exact False.elim ‹_› | (with_reducible refine Al.intro ?_; intro pb hpb; (try simp only [hupd_none'] at hpb); (repeat rcases hpb with ⟨⟨hpx, hpy⟩, hpb⟩)) | with_reducible refine need ?_ | ((with_reducible first | refine frk0 ?_ ?_ | refine frk1 ?_ ?_ | refine frk2 ?_ ?_ | refine frk3 ?_ ?_ | refine frk4 ?_ ?_ | refine frk5 ?_ ?_ | refine frk6 ?_ ?_ | refine frk7 ?_ ?_ | refine frk8 ?_ ?_ | refine frk9 ?_ ?_) <;> intro h <;> try (exfalso; omega)) | with_reducible refine quiet_and ?_ ?_ | with_reducible refine awp_drawnA mixed (by decide +kernel) ?_ | ((fail_if_success with_reducible refine stp ?_); simp -implicitDefEqProofs only [go_sem, Nat.reduceEqDiff, Nat.reduceAdd, Nat.reduceLT, Nat.reduceMul, Nat.reduceSub, Nat.reduceLeDiff, ↓reduceIte, reduceCtorEq, ↓String.reduceEq, String.reduceNe, Int.reduceToNat, Int.reduceLT, Int.reduceLE, Int.reduceGT, Int.reduceGE, Int.reduceEq, Int.reduceNe, Int.reduceBEq, Int.reduceBNe, Int.reduceAdd, Int.reduceSub, Int.reduceMul, Int.reduceNeg,  rowB, *]))
        exact Again.intro ⟨s - q, by have := H2.out; omega, _, Sub.refl _, s, .mk ⟨rfl, by omega, by omega⟩, (by first | (simp only [upd, put, Nat.reduceEqDiff, ↓reduceIte, t0]; done) | (simp [upd, put, t0]; done) | rfl | (simp [upd, put, t0]; rfl)), (by first | (simp only [upd, put, Nat.reduceEqDiff, ↓reduceIte, t14]; done) | (simp [upd, put, t14]; done) | rfl | (simp [upd, put, t14]; rfl)), ttt, by have := HC'.out; rw [this]; first | rfl | (simp only [rowB, hupd_hupd])⟩
      · have lt : ¬ ((a + q : Nat) : Int) < ((a + r : Nat) : Int) := by omega
        repeat' (first | exact tf0 ‹_› | exact tf1 ‹_› | exact False.elim ‹_› | (with_reducible refine Al.intro ?_; intro pb hpb; (try simp only [hupd_none'] at hpb); (repeat rcases hpb with ⟨⟨hpx, hpy⟩, hpb⟩)) | with_reducible refine need ?_ | ((with_reducible first | refine frk0 ?_ ?_ | refine frk1 ?_ ?_ | refine frk2 ?_ ?_ | refine frk3 ?_ ?_ | refine frk4 ?_ ?_ | refine frk5 ?_ ?_ | refine frk6 ?_ ?_ | refine frk7 ?_ ?_ | refine frk8 ?_ ?_ | refine frk9 ?_ ?_) <;> intro h <;> try (exfalso; omega)) | with_reducible refine quiet_and ?_ ?_ | with_reducible refine awp_drawnA mixed (by decide +kernel) ?_ | ((fail_if_success with_reducible refine stp ?_); simp -implicitDefEqProofs only [go_sem, Nat.reduceEqDiff, Nat.reduceAdd, Nat.reduceLT, Nat.reduceMul, Nat.reduceSub, Nat.reduceLeDiff, ↓reduceIte, reduceCtorEq, ↓String.reduceEq, String.reduceNe, Int.reduceToNat, Int.reduceLT, Int.reduceLE, Int.reduceGT, Int.reduceGE, Int.reduceEq, Int.reduceNe, Int.reduceBEq, Int.reduceBNe, Int.reduceAdd, Int.reduceSub, Int.reduceMul, Int.reduceNeg,  *]))
        exact Again.intro (by rw [show r = q by have := H2.out; omega])
    · rintro ts m2 hm2
      subst m2
      repeat' (first | exact tf0 ‹_› | exact tf1 ‹_› | exact False.elim ‹_› | (with_reducible refine Al.intro ?_; intro pb hpb; (try simp only [hupd_none'] at hpb); (repeat rcases hpb with ⟨⟨hpx, hpy⟩, hpb⟩)) | with_reducible refine need ?_ | ((with_reducible first | refine frk0 ?_ ?_ | refine frk1 ?_ ?_ | refine frk2 ?_ ?_ | refine frk3 ?_ ?_ | refine frk4 ?_ ?_ | refine frk5 ?_ ?_ | refine frk6 ?_ ?_ | refine frk7 ?_ ?_ | refine frk8 ?_ ?_ | refine frk9 ?_ ?_) <;> intro h <;> try (exfalso; omega)) | with_reducible refine quiet_and ?_ ?_ | with_reducible refine awp_drawnA mixed (by decide +kernel) ?_ | ((fail_if_success with_reducible refine stp ?_); simp -implicitDefEqProofs only [go_sem, Nat.reduceEqDiff, Nat.reduceAdd, Nat.reduceLT, Nat.reduceMul, Nat.reduceSub, Nat.reduceLeDiff, ↓reduceIte, reduceCtorEq, ↓String.reduceEq, String.reduceNe, Int.reduceToNat, Int.reduceLT, Int.reduceLE, Int.reduceGT, Int.reduceGE, Int.reduceEq, Int.reduceNe, Int.reduceBEq, Int.reduceBNe, Int.reduceAdd, Int.reduceSub, Int.reduceMul, Int.reduceNeg,  *]))
      refine ⟨_, Sub.refl _, ?_⟩
      obtain ⟨hq1, hq2, hq3⟩ := H.out
      obtain ⟨hA, hw, -⟩ := H0.out
      have hs : A.take q ++ w :: (A.drop q ++ Y) = (A.take q ++ w :: A.drop q) ++ Y := by simp
      rw [hs]
      refine HK.out _ (put_in (by rw [List.take_append_drop]; exact hA) (by rw [List.take_append_drop]; exact hw) ((cut_one hA hq1).2.1 hq2) ((cut_one hA hq1).2.2.1 hq3)) ?_
      refine List.perm_middle.trans ?_
      rw [List.take_append_drop]
      exact (List.perm_append_singleton w A).symm
end Go.Proofs.Ytmifapnmlhchlaa
