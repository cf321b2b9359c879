/- The library's stable sort: the merge of one. -/
import Derived.Test.YtmifapnmlhchlaaE6
set_option linter.all false
namespace Go.Proofs.Ytmifapnmlhchlaa
open Go Go.Proofs.Ytmifapnmlhchlaa.Ab
open Go.Proofs (Try.prog)
set_option maxRecDepth 100000
theorem half_u (x : Nat) (hx : x ≤ 10000) : IntKind.u64.wrap (x : Int) = (x : Int) := by
  rw [wrap_u64' (by omega) (by omega)]
theorem half_s (x y : Nat) (hx : y = x / 2) : ashr .u64 (x : Int) 1 = (y : Int) := by
  rw [shr_u64 (by omega) (by decide) (by decide), hx]
  simp
theorem i64_nat (x : Nat) (hx : x ≤ 10000) : IntKind.i64.wrap (x : Int) = (x : Int) := by
  rw [wrap_i64 (by omega) (by omega)]
/-- One of a row. -/
theorem rd {C P Q : List Wt} {x : Wt} (hC : C = P ++ x :: Q) (pre post : List AVal) {i : Nat} (hi : i = P.length) :
    ((pre ++ (C.flatMap encC ++ post)).drop (pre.length + i * 5)).take 5 = [.int .i64 x.1.1, .int .i64 x.1.2.1, .int .i64 x.1.2.2.1, .int .i64 x.1.2.2.2, .int .i64 x.2] ∧ pre.length + i * 5 + 5 ≤ (pre ++ (C.flatMap encC ++ post)).length := by
  have hx : C.getD i default = x := by rw [hC]; exact getD_midN P x _ hi
  have hl : C.length = P.length + (Q.length + 1) := by rw [hC]; simp
  exact ⟨w_at C pre post i (by omega) x hx, w_len C pre post i (by omega)⟩
set_option maxHeartbeats 2000000 in
theorem merge_one (G : Nat → AVal) (X B Y : List Wt) (w : Wt) (hB : B.Pairwise RT) (hw : ∀ v ∈ B, pT w < pT v) (hl : (X ++ (w :: (B ++ Y))).length ≤ 1000) (pre post : List AVal) (N pb L cap a c b : Nat) (ha : a = X.length) (hc : c = X.length + 1) (hb : b = X.length + 1 + B.length) (hL : L = (X ++ (w :: (B ++ Y))).length)
    (m : Heap) (K : AVal → Heap → Prop) (hm : m pb = some (rowB pre post N (X ++ (w :: (B ++ Y)))))
    (hK : ∀ S : List Wt, S.Pairwise RT → S.Perm (w :: B) → K (.tuple []) (hupd m pb (rowB pre post N (X ++ (S ++ Y))))) : CallWP Try.prog G 75 [.slice pb pre.length L cap, .int .i64 a, .int .i64 c, .int .i64 b, cameV] m K := by
  have HK := Hid.mk hK
  have HM := Hid.mk hm
  have H0 := Hid.mk (And.intro hB (And.intro hw (And.intro ha (And.intro hc (And.intro hb (And.intro hL hl))))))
  have w1 : IntKind.i64.wrap ((c : Int) - (a : Int)) = 1 := by simp only [List.length_append, List.length_cons] at hl; rw [wrap_i64 (by omega) (by omega)]; omega
  have HL : b ≤ L ∧ L ≤ 1000 := by simp only [List.length_append, List.length_cons] at hl hL; omega
  have hlen := HL.1
  have hlen2 := HL.2
  clear hK ha hb hL hl hc hB hw HL
  refine callWP_body Try.func75 rfl (N := 220) rfl (rs := []) rfl en_75 (of_decide_eq_true rfl) ?_
  repeat' (first | exact tf0 ‹_› | exact tf1 ‹_› | exact False.elim ‹_› | (with_reducible refine Al.intro ?_; intro pb hpb; (try simp only [hupd_none'] at hpb); (repeat rcases hpb with ⟨⟨hpx, hpy⟩, hpb⟩)) | with_reducible refine need ?_ | ((with_reducible first | refine frk0 ?_ ?_ | refine frk1 ?_ ?_ | refine frk2 ?_ ?_ | refine frk3 ?_ ?_ | refine frk4 ?_ ?_ | refine frk5 ?_ ?_ | refine frk6 ?_ ?_ | refine frk7 ?_ ?_ | refine frk8 ?_ ?_ | refine frk9 ?_ ?_) <;> intro h <;> try (exfalso; omega)) | with_reducible refine quiet_and ?_ ?_ | with_reducible refine awp_drawnA mixed (by decide +kernel) ?_ | ((fail_if_success with_reducible refine stp ?_); simp -implicitDefEqProofs only [go_sem, Nat.reduceEqDiff, Nat.reduceAdd, Nat.reduceLT, Nat.reduceMul, Nat.reduceSub, Nat.reduceLeDiff, ↓reduceIte, reduceCtorEq, ↓String.reduceEq, String.reduceNe, Int.reduceToNat, Int.reduceLT, Int.reduceLE, Int.reduceGT, Int.reduceGE, Int.reduceEq, Int.reduceNe, Int.reduceBEq, Int.reduceBNe, Int.reduceAdd, Int.reduceSub, Int.reduceMul, Int.reduceNeg,  *]))
  refine awp_loopP 0 (fun ts m' => ∃ q : Nat, Hid (q ≤ B.length ∧ (q = 0 ∨ kT (B.getD (q - 1) default) < kT w) ∧ (q = B.length ∨ kT w ≤ kT (B.getD q default))) ∧ ts 0 = .slice pb pre.length L cap ∧ ts 1 = .int .i64 a ∧ ts 2 = .int .i64 c ∧ ts 10 = .int .i64 ((c + q : Nat) : Int) ∧ m' = m)
    (fun k ts m' => ∃ i j : Nat, Hid (k = j - i ∧ i ≤ j ∧ j ≤ B.length ∧ (i = 0 ∨ kT (B.getD (i - 1) default) < kT w) ∧ (j = B.length ∨ kT w ≤ kT (B.getD j default))) ∧ ts 0 = .slice pb pre.length L cap ∧ ts 1 = .int .i64 a ∧ ts 2 = .int .i64 c ∧ ts 4 = cameV ∧ ts 10 = .int .i64 ((c + i : Nat) : Int) ∧ ts 11 = .int .i64 ((c + j : Nat) : Int) ∧ m' = m) B.length
    ⟨0, B.length, .mk ⟨rfl, Nat.zero_le _, Nat.le_refl _, .inl rfl, .inl rfl⟩, ttt, ttt, ttt, ttt, ttt, by have q := H0.out; rw [show c + B.length = b by omega]; exact (ttt), rfl⟩ ?_ ?_
  · rintro k ts m' ⟨i, j, H, t0, t1, t2, t4, t10, t11, rfl⟩
    by_cases hij : i < j
    · have lt : ((c + i : Nat) : Int) < ((c + j : Nat) : Int) := by omega
      have hcj : c + j ≤ b := by have h := H.out; have q := H0.out; omega
      have w2 : IntKind.i64.wrap (((c + i : Nat) : Int) + ((c + j : Nat) : Int)) = ((c + i + (c + j) : Nat) : Int) := by rw [wrap_i64 (by omega) (by omega)]; omega
      obtain ⟨h, hh⟩ : ∃ h, h = (i + j) / 2 := ⟨_, rfl⟩
      have hh1 : i ≤ h := by omega
      have hh2 : h < j := by omega
      have w3 := half_u (c + i + (c + j)) (by omega)
      have w4 := half_s (c + i + (c + j)) (c + h) (by omega)
      have w5 := i64_nat (c + h) (by omega)
      have w6 : IntKind.i64.wrap (((c + h : Nat) : Int) + 1) = ((c + (h + 1) : Nat) : Int) := by rw [wrap_i64 (by omega) (by omega)]; omega
      have hhB : h < B.length := by have q := H.out; omega
      obtain ⟨x, hx⟩ : ∃ x, B.getD h default = x := ⟨_, rfl⟩
      obtain ⟨C, hC⟩ : ∃ C, C = X ++ (w :: (B ++ Y)) := ⟨_, rfl⟩
      have hB1 := cut_at B h hhB
      rw [hx] at hB1
      obtain ⟨g1, l1⟩ := rd (C := C) (P := X) (Q := B ++ Y) (x := w) hC pre post (i := a) H0.out.2.2.1
      obtain ⟨g2, l2⟩ := rd (C := C) (P := X ++ (w :: B.take h)) (Q := B.drop (h + 1) ++ Y) (x := x) (by rw [hC]; conv => lhs; rw [hB1]
                                                                                                         simp) pre post (i := c + h) (by have q := H0.out; simp only [List.length_append, List.length_cons, List.length_take]; omega)
      rw [← hC] at hm
      have hcL : c + h < L := by omega
      have haL : a < L := by have q := H0.out; omega
      have HX := Hid.mk hx
      clear HM hC hB1 hh hx
      repeat' (first | exact tf0 ‹_› | exact tf1 ‹_› | exact False.elim ‹_› | (with_reducible refine Al.intro ?_; intro pb hpb; (try simp only [hupd_none'] at hpb); (repeat rcases hpb with ⟨⟨hpx, hpy⟩, hpb⟩)) | with_reducible refine need ?_ | ((with_reducible first | refine frk0 ?_ ?_ | refine frk1 ?_ ?_ | refine frk2 ?_ ?_ | refine frk3 ?_ ?_ | refine frk4 ?_ ?_ | refine frk5 ?_ ?_ | refine frk6 ?_ ?_ | refine frk7 ?_ ?_ | refine frk8 ?_ ?_ | refine frk9 ?_ ?_) <;> intro h <;> try (exfalso; omega)) | with_reducible refine quiet_and ?_ ?_ | with_reducible refine awp_drawnA mixed (by decide +kernel) ?_ | ((fail_if_success with_reducible refine stp ?_); simp -implicitDefEqProofs only [go_sem, Nat.reduceEqDiff, Nat.reduceAdd, Nat.reduceLT, Nat.reduceMul, Nat.reduceSub, Nat.reduceLeDiff, ↓reduceIte, reduceCtorEq, ↓String.reduceEq, String.reduceNe, Int.reduceToNat, Int.reduceLT, Int.reduceLE, Int.reduceGT, Int.reduceGE, Int.reduceEq, Int.reduceNe, Int.reduceBEq, Int.reduceBNe, Int.reduceAdd, Int.reduceSub, Int.reduceMul, Int.reduceNeg,  rowB, *]))
      refine CallWP.to (came_spec G x w _) ?_
      by_cases hk : kT x < kT w
      · have cl : cmpI x.1.2.1 w.1.2.1 < 0 := (of_decide_eq_true ((cmp_lt _ _).trans (decide_eq_true hk)))
        repeat' (first | exact tf0 ‹_› | exact tf1 ‹_› | exact False.elim ‹_› | (with_reducible refine Al.intro ?_; intro pb hpb; (try simp only [hupd_none'] at hpb); (repeat rcases hpb with ⟨⟨hpx, hpy⟩, hpb⟩)) | with_reducible refine need ?_ | ((with_reducible first | refine frk0 ?_ ?_ | refine frk1 ?_ ?_ | refine frk2 ?_ ?_ | refine frk3 ?_ ?_ | refine frk4 ?_ ?_ | refine frk5 ?_ ?_ | refine frk6 ?_ ?_ | refine frk7 ?_ ?_ | refine frk8 ?_ ?_ | refine frk9 ?_ ?_) <;> intro h <;> try (exfalso; omega)) | with_reducible refine quiet_and ?_ ?_ | with_reducible refine awp_drawnA mixed (by decide +kernel) ?_ | ((fail_if_success with_reducible refine stp ?_); simp -implicitDefEqProofs only [go_sem, Nat.reduceEqDiff, Nat.reduceAdd, Nat.reduceLT, Nat.reduceMul, Nat.reduceSub, Nat.reduceLeDiff, ↓reduceIte, reduceCtorEq, ↓String.reduceEq, String.reduceNe, Int.reduceToNat, Int.reduceLT, Int.reduceLE, Int.reduceGT, Int.reduceGE, Int.reduceEq, Int.reduceNe, Int.reduceBEq, Int.reduceBNe, Int.reduceAdd, Int.reduceSub, Int.reduceMul, Int.reduceNeg,  rowB, *]))
        exact Again.intro ⟨j - (h + 1), by have := H.out; omega, _, Sub.refl _, h + 1, j, .mk ⟨rfl, by omega, H.out.2.2.1, .inr (by rw [Nat.add_sub_cancel, HX.out]; exact hk), H.out.2.2.2.2⟩, (by first | (simp only [upd, put, Nat.reduceEqDiff, ↓reduceIte, t0]; done) | (simp [upd, put, t0]; done) | rfl | (simp [upd, put, t0]; rfl)), (by first | (simp only [upd, put, Nat.reduceEqDiff, ↓reduceIte, t1]; done) | (simp [upd, put, t1]; done) | rfl | (simp [upd, put, t1]; rfl)), (by first | (simp only [upd, put, Nat.reduceEqDiff, ↓reduceIte, t2]; done) | (simp [upd, put, t2]; done) | rfl | (simp [upd, put, t2]; rfl)), (by first | (simp only [upd, put, Nat.reduceEqDiff, ↓reduceIte, t4]; done) | (simp [upd, put, t4]; done) | rfl | (simp [upd, put, t4]; rfl)), ttt, (by first | (simp only [upd, put, Nat.reduceEqDiff, ↓reduceIte, t11]; done) | (simp [upd, put, t11]; done) | rfl | (simp [upd, put, t11]; rfl)), rfl⟩
      · have cl : ¬ cmpI x.1.2.1 w.1.2.1 < 0 := (of_decide_eq_false ((cmp_lt _ _).trans (decide_eq_false hk)))
        repeat' (first | exact tf0 ‹_› | exact tf1 ‹_› | exact False.elim ‹_› | (with_reducible refine Al.intro ?_; intro pb hpb; (try simp only [hupd_none'] at hpb); (repeat rcases hpb with ⟨⟨hpx, hpy⟩, hpb⟩)) | with_reducible refine need ?_ | ((with_reducible first | refine frk0 ?_ ?_ | refine frk1 ?_ ?_ | refine frk2 ?_ ?_ | refine frk3 ?_ ?_ | refine frk4 ?_ ?_ | refine frk5 ?_ ?_ | refine frk6 ?_ ?_ | refine frk7 ?_ ?_ | refine frk8 ?_ ?_ | refine frk9 ?_ ?_) <;> intro h <;> try (exfalso; omega)) | with_reducible refine quiet_and ?_ ?_ | with_reducible refine awp_drawnA mixed (by decide +kernel) ?_ | ((fail_if_success with_reducible refine stp ?_); simp -implicitDefEqProofs only [go_sem, Nat.reduceEqDiff, Nat.reduceAdd, Nat.reduceLT, Nat.reduceMul, Nat.reduceSub, Nat.reduceLeDiff, ↓reduceIte, reduceCtorEq, ↓String.reduceEq, String.reduceNe, Int.reduceToNat, Int.reduceLT, Int.reduceLE, Int.reduceGT, Int.reduceGE, Int.reduceEq, Int.reduceNe, Int.reduceBEq, Int.reduceBNe, Int.reduceAdd, Int.reduceSub, Int.reduceMul, Int.reduceNeg,  rowB, *]))
        exact Again.intro ⟨h - i, by have := H.out; omega, _, Sub.refl _, i, h, .mk ⟨rfl, by omega, by omega, H.out.2.2.2.1, .inr (by rw [HX.out]; omega)⟩, (by first | (simp only [upd, put, Nat.reduceEqDiff, ↓reduceIte, t0]; done) | (simp [upd, put, t0]; done) | rfl | (simp [upd, put, t0]; rfl)), (by first | (simp only [upd, put, Nat.reduceEqDiff, ↓reduceIte, t1]; done) | (simp [upd, put, t1]; done) | rfl | (simp [upd, put, t1]; rfl)), (by first | (simp only [upd, put, Nat.reduceEqDiff, ↓reduceIte, t2]; done) | (simp [upd, put, t2]; done) | rfl | (simp [upd, put, t2]; rfl)), (by first | (simp only [upd, put, Nat.reduceEqDiff, ↓reduceIte, t4]; done) | (simp [upd, put, t4]; done) | rfl | (simp [upd, put, t4]; rfl)), (by first | (simp only [upd, put, Nat.reduceEqDiff, ↓reduceIte, t10]; done) | (simp [upd, put, t10]; done) | rfl | (simp [upd, put, t10]; rfl)), ttt, rfl⟩
    · have lt : ¬ ((c + i : Nat) : Int) < ((c + j : Nat) : Int) := by omega
      repeat' (first | exact tf0 ‹_› | exact tf1 ‹_› | exact False.elim ‹_› | (with_reducible refine Al.intro ?_; intro pb hpb; (try simp only [hupd_none'] at hpb); (repeat rcases hpb with ⟨⟨hpx, hpy⟩, hpb⟩)) | with_reducible refine need ?_ | ((with_reducible first | refine frk0 ?_ ?_ | refine frk1 ?_ ?_ | refine frk2 ?_ ?_ | refine frk3 ?_ ?_ | refine frk4 ?_ ?_ | refine frk5 ?_ ?_ | refine frk6 ?_ ?_ | refine frk7 ?_ ?_ | refine frk8 ?_ ?_ | refine frk9 ?_ ?_) <;> intro h <;> try (exfalso; omega)) | with_reducible refine quiet_and ?_ ?_ | with_reducible refine awp_drawnA mixed (by decide +kernel) ?_ | ((fail_if_success with_reducible refine stp ?_); simp -implicitDefEqProofs only [go_sem, Nat.reduceEqDiff, Nat.reduceAdd, Nat.reduceLT, Nat.reduceMul, Nat.reduceSub, Nat.reduceLeDiff, ↓reduceIte, reduceCtorEq, ↓String.reduceEq, String.reduceNe, Int.reduceToNat, Int.reduceLT, Int.reduceLE, Int.reduceGT, Int.reduceGE, Int.reduceEq, Int.reduceNe, Int.reduceBEq, Int.reduceBNe, Int.reduceAdd, Int.reduceSub, Int.reduceMul, Int.reduceNeg,  *]))
      exact Again.intro ⟨i, .mk (by
        have h := H.out
        have e : i = j := by omega
        subst e
        exact ⟨h.2.2.1, h.2.2.2.1, h.2.2.2.2⟩), (by first | (simp only [upd, put, Nat.reduceEqDiff, ↓reduceIte, t0]; done) | (simp [upd, put, t0]; done) | rfl | (simp [upd, put, t0]; rfl)), (by first | (simp only [upd, put, Nat.reduceEqDiff, ↓reduceIte, t1]; done) | (simp [upd, put, t1]; done) | rfl | (simp [upd, put, t1]; rfl)), (by first | (simp only [upd, put, Nat.reduceEqDiff, ↓reduceIte, t2]; done) | (simp [upd, put, t2]; done) | rfl | (simp [upd, put, t2]; rfl)), (by first | (simp only [upd, put, Nat.reduceEqDiff, ↓reduceIte, t10]; done) | (simp [upd, put, t10]; done) | rfl | (simp [upd, put, t10]; rfl)), rfl⟩
  · rintro ts m' ⟨q, H, t0, t1, t2, t10, rfl⟩
    have hq : c + q ≤ b := by have h := H.out; have q := H0.out; omega
    have hca : c = a + 1 := by have q := H0.out; omega
    have w2 : IntKind.i64.wrap (((c + q : Nat) : Int) - 1) = ((a + q : Nat) : Int) := by rw [wrap_i64 (by omega) (by omega)]; omega
    have HCA := Hid.mk hca
    clear hca hm
    repeat' (first | exact tf0 ‹_› | exact tf1 ‹_› | exact False.elim ‹_› | (with_reducible refine Al.intro ?_; intro pb hpb; (try simp only [hupd_none'] at hpb); (repeat rcases hpb with ⟨⟨hpx, hpy⟩, hpb⟩)) | with_reducible refine need ?_ | ((with_reducible first | refine frk0 ?_ ?_ | refine frk1 ?_ ?_ | refine frk2 ?_ ?_ | refine frk3 ?_ ?_ | refine frk4 ?_ ?_ | refine frk5 ?_ ?_ | refine frk6 ?_ ?_ | refine frk7 ?_ ?_ | refine frk8 ?_ ?_ | refine frk9 ?_ ?_) <;> intro h <;> try (exfalso; omega)) | with_reducible refine quiet_and ?_ ?_ | with_reducible refine awp_drawnA mixed (by decide +kernel) ?_ | ((fail_if_success with_reducible refine stp ?_); simp -implicitDefEqProofs only [go_sem, Nat.reduceEqDiff, Nat.reduceAdd, Nat.reduceLT, Nat.reduceMul, Nat.reduceSub, Nat.reduceLeDiff, ↓reduceIte, reduceCtorEq, ↓String.reduceEq, String.reduceNe, Int.reduceToNat, Int.reduceLT, Int.reduceLE, Int.reduceGT, Int.reduceGE, Int.reduceEq, Int.reduceNe, Int.reduceBEq, Int.reduceBNe, Int.reduceAdd, Int.reduceSub, Int.reduceMul, Int.reduceNeg,  *]))
    refine awp_loopP 2 (fun ts m2 => m2 = hupd m' pb (rowB pre post N (X ++ (B.take q ++ (w :: (B.drop q ++ Y))))))
      (fun k ts m2 => ∃ r : Nat, Hid (k = q - r ∧ r ≤ q) ∧ ts 0 = .slice pb pre.length L cap ∧ ts 10 = .int .i64 ((c + q : Nat) : Int) ∧ ts 13 = .int .i64 ((a + r : Nat) : Int) ∧ m2 = hupd m' pb (rowB pre post N (X ++ (B.take r ++ (w :: (B.drop r ++ Y)))))) q
      ⟨0, .mk ⟨rfl, Nat.zero_le _⟩, (by first | (simp only [upd, put, Nat.reduceEqDiff, ↓reduceIte, t0]; done) | (simp [upd, put, t0]; done) | rfl | (simp [upd, put, t0]; rfl)), (by first | (simp only [upd, put, Nat.reduceEqDiff, ↓reduceIte, t10]; done) | (simp [upd, put, t10]; done) | rfl | (simp [upd, put, t10]; rfl)), (by first | (simp only [upd, put, Nat.reduceEqDiff, ↓reduceIte, t1]; done) | (simp [upd, put, t1]; done) | rfl | (simp [upd, put, t1]; rfl)), by
        funext x
        by_cases e : x = pb
        · rw [e, hupd_at, if_pos rfl]; simpa using HM.out
        · rw [hupd_ne e]⟩ ?_ ?_
    · rintro k ts m2 ⟨r, H2, t0, t10, t13, rfl⟩
      by_cases hrq : r < q
      · have lt : ((a + r : Nat) : Int) < ((a + q : Nat) : Int) := by omega
        have hrB : r < B.length := by have h := H.out; omega
        obtain ⟨x, hx⟩ : ∃ x, B.getD r default = x := ⟨_, rfl⟩
        obtain ⟨C, hC⟩ : ∃ C, C = X ++ (B.take r ++ (w :: (B.drop r ++ Y))) := ⟨_, rfl⟩
        obtain ⟨C', hC'⟩ : ∃ C', C' = X ++ (B.take (r + 1) ++ (w :: (B.drop (r + 1) ++ Y))) := ⟨_, rfl⟩
        have d1 : B.drop r = x :: B.drop (r + 1) := by rw [← hx]; simp [List.getD_eq_getElem?_getD, hrB]
        have d2 : B.take (r + 1) = B.take r ++ [x] := by rw [← hx, List.take_add_one]; simp [List.getD_eq_getElem?_getD, hrB]
        obtain ⟨g1, g2, l1, l2, l3, -, g3, -⟩ := adj (C := C) (C' := C') (P := X ++ B.take r) (Q := B.drop (r + 1) ++ Y) (x := w) (y := x) (by rw [hC, d1]; simp) (by rw [hC', d2]; simp) pre post (i := a + r) (j := a + (r + 1)) (by have q := H0.out; simp only [List.length_append, List.length_take]; omega) rfl
        rw [← hC]
        have HC' := Hid.mk hC'
        have w3 : IntKind.i64.wrap (((a + r : Nat) : Int) + 1) = ((a + (r + 1) : Nat) : Int) := by have := HCA.out; rw [wrap_i64 (by omega) (by omega)]; omega
        have hr1 : a + r < L := by have := HCA.out; omega
        have hr2 : a + (r + 1) < L := by have := HCA.out; omega
        clear hC hC' d1 d2 hx
        repeat' (first | exact tf0 ‹_› | exact tf1 ‹_› | exact False.elim ‹_› | (with_reducible refine Al.intro ?_; intro pb hpb; (try simp only [hupd_none'] at hpb); (repeat rcases hpb with ⟨⟨hpx, hpy⟩, hpb⟩)) | with_reducible refine need ?_ | ((with_reducible first | refine frk0 ?_ ?_ | refine frk1 ?_ ?_ | refine frk2 ?_ ?_ | refine frk3 ?_ ?_ | refine frk4 ?_ ?_ | refine frk5 ?_ ?_ | refine frk6 ?_ ?_ | refine frk7 ?_ ?_ | refine frk8 ?_ ?_ | refine frk9 ?_ ?_) <;> intro h <;> try (exfalso; omega)) | with_reducible refine quiet_and ?_ ?_ | with_reducible refine awp_drawnA mixed (by decide +kernel) ?_ | ((fail_if_success with_reducible refine stp ?_); simp -implicitDefEqProofs only [go_sem, Nat.reduceEqDiff, Nat.reduceAdd, Nat.reduceLT, Nat.reduceMul, Nat.reduceSub, Nat.reduceLeDiff, ↓reduceIte, reduceCtorEq, ↓String.reduceEq, String.reduceNe, Int.reduceToNat, Int.reduceLT, Int.reduceLE, Int.reduceGT, Int.reduceGE, Int.reduceEq, Int.reduceNe, Int.reduceBEq, Int.reduceBNe, Int.reduceAdd, Int.reduceSub, Int.reduceMul, Int.reduceNeg,  rowB, *]))
        exact Again.intro ⟨q - (r + 1), by have := H2.out; omega, _, Sub.refl _, r + 1, .mk ⟨rfl, by omega⟩, (by first | (simp only [upd, put, Nat.reduceEqDiff, ↓reduceIte, t0]; done) | (simp [upd, put, t0]; done) | rfl | (simp [upd, put, t0]; rfl)), (by first | (simp only [upd, put, Nat.reduceEqDiff, ↓reduceIte, t10]; done) | (simp [upd, put, t10]; done) | rfl | (simp [upd, put, t10]; rfl)), ttt, by have := HC'.out; rw [this]; first | rfl | (simp only [rowB, hupd_hupd])⟩
      · have lt : ¬ ((a + r : Nat) : Int) < ((a + q : Nat) : Int) := by omega
        repeat' (first | exact tf0 ‹_› | exact tf1 ‹_› | exact False.elim ‹_› | (with_reducible refine Al.intro ?_; intro pb hpb; (try simp only [hupd_none'] at hpb); (repeat rcases hpb with ⟨⟨hpx, hpy⟩, hpb⟩)) | with_reducible refine need ?_ | ((with_reducible first | refine frk0 ?_ ?_ | refine frk1 ?_ ?_ | refine frk2 ?_ ?_ | refine frk3 ?_ ?_ | refine frk4 ?_ ?_ | refine frk5 ?_ ?_ | refine frk6 ?_ ?_ | refine frk7 ?_ ?_ | refine frk8 ?_ ?_ | refine frk9 ?_ ?_) <;> intro h <;> try (exfalso; omega)) | with_reducible refine quiet_and ?_ ?_ | with_reducible refine awp_drawnA mixed (by decide +kernel) ?_ | ((fail_if_success with_reducible refine stp ?_); simp -implicitDefEqProofs only [go_sem, Nat.reduceEqDiff, Nat.reduceAdd, Nat.reduceLT, Nat.reduceMul, Nat.reduceSub, Nat.reduceLeDiff, ↓reduceIte, reduceCtorEq, ↓String.reduceEq, String.reduceNe, Int.reduceToNat, Int.reduceLT, Int.reduceLE, Int.reduceGT, Int.reduceGE, Int.reduceEq, Int.reduceNe, Int.reduceBEq, Int.reduceBNe, Int.reduceAdd, Int.reduceSub, Int.reduceMul, Int.reduceNeg,  *]))
        exact Again.intro (by rw [show r = q by have := H2.out; omega])
    · rintro ts m2 rfl
      repeat' (first | exact tf0 ‹_› | exact tf1 ‹_› | exact False.elim ‹_› | (with_reducible refine Al.intro ?_; intro pb hpb; (try simp only [hupd_none'] at hpb); (repeat rcases hpb with ⟨⟨hpx, hpy⟩, hpb⟩)) | with_reducible refine need ?_ | ((with_reducible first | refine frk0 ?_ ?_ | refine frk1 ?_ ?_ | refine frk2 ?_ ?_ | refine frk3 ?_ ?_ | refine frk4 ?_ ?_ | refine frk5 ?_ ?_ | refine frk6 ?_ ?_ | refine frk7 ?_ ?_ | refine frk8 ?_ ?_ | refine frk9 ?_ ?_) <;> intro h <;> try (exfalso; omega)) | with_reducible refine quiet_and ?_ ?_ | with_reducible refine awp_drawnA mixed (by decide +kernel) ?_ | ((fail_if_success with_reducible refine stp ?_); simp -implicitDefEqProofs only [go_sem, Nat.reduceEqDiff, Nat.reduceAdd, Nat.reduceLT, Nat.reduceMul, Nat.reduceSub, Nat.reduceLeDiff, ↓reduceIte, reduceCtorEq, ↓String.reduceEq, String.reduceNe, Int.reduceToNat, Int.reduceLT, Int.reduceLE, Int.reduceGT, Int.reduceGE, Int.reduceEq, Int.reduceNe, Int.reduceBEq, Int.reduceBNe, Int.reduceAdd, Int.reduceSub, Int.reduceMul, Int.reduceNeg,  *]))
      refine ⟨_, Sub.refl _, ?_⟩
      obtain ⟨hq1, hq2, hq3⟩ := H.out
      obtain ⟨hB, hw, -⟩ := H0.out
      have hs : B.take q ++ w :: (B.drop q ++ Y) = (B.take q ++ w :: B.drop q) ++ Y := by simp
      rw [hs]
      refine HK.out _ (put_first (by rw [List.take_append_drop]; exact hB) (by rw [List.take_append_drop]; exact hw) ((cut_one hB hq1).1 hq2) ((cut_one hB hq1).2.2.2 hq3)) ?_
      exact List.perm_middle.trans (by rw [List.take_append_drop])
end Go.Proofs.Ytmifapnmlhchlaa
