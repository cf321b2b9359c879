/- The library's stable sort: the merge. -/
import Derived.Test.YtmifapnmlhchlaaE8
set_option linter.all false
namespace Go.Proofs.Ytmifapnmlhchlaa
open Go Go.Proofs.Ytmifapnmlhchlaa.Ab
open Go.Proofs (Try.prog)
set_option maxRecDepth 100000
/-- The merge does its work at these two rows. -/
def MergeAt (G : Nat → AVal) (pre post : List AVal) (N pb L cap : Nat) (A B : List Wt) : Prop :=
  ∀ (X Y : List Wt) (a c b : Nat) (m : Heap) (K : AVal → Heap → Prop), (X ++ (A ++ (B ++ Y))).length = L → a = X.length → c = X.length + A.length → b = X.length + A.length + B.length →
    m pb = some (rowB pre post N (X ++ (A ++ (B ++ Y)))) → (∀ S : List Wt, S.Pairwise RT → S.Perm (A ++ B) → K (.tuple []) (hupd m pb (rowB pre post N (X ++ (S ++ Y))))) →
    CallWP Try.prog G 75 [.slice pb pre.length L cap, .int .i64 a, .int .i64 c, .int .i64 b, cameV] m K
/-- Two rows to merge. -/
def Two (A B : List Wt) : Prop := A.Pairwise RT ∧ B.Pairwise RT ∧ ∀ u ∈ A, ∀ v ∈ B, pT u < pT v
theorem Two.left {A B : List Wt} (h : Two A B) (i j : Nat) : Two (A.take i) (B.take j) := ⟨h.1.sublist (List.take_sublist _ _), h.2.1.sublist (List.take_sublist _ _), fun u hu v hv => h.2.2 u (List.mem_of_mem_take hu) v (List.mem_of_mem_take hv)⟩
theorem Two.right {A B : List Wt} (h : Two A B) (i j : Nat) : Two (A.drop i) (B.drop j) := ⟨h.1.sublist (List.drop_sublist _ _), h.2.1.sublist (List.drop_sublist _ _), fun u hu v hv => h.2.2 u (List.mem_of_mem_drop hu) v (List.mem_of_mem_drop hv)⟩
/-- Where the rows are cut. -/
def Cut (A B : List Wt) (M s : Nat) : Prop := s ≤ A.length ∧ s ≤ M ∧ M - s ≤ B.length ∧ (s = M - B.length ∨ kT (A.getD (s - 1) default) ≤ kT (B.getD (M - s) default)) ∧ (s = min A.length M ∨ kT (B.getD (M - s - 1) default) < kT (A.getD s default))
theorem Cut.fit {A B : List Wt} {M s : Nat} (h : Cut A B M s) (t : Two A B) {S1 S2 : List Wt} (s1 : S1.Pairwise RT) (p1 : S1.Perm (A.take s ++ B.take (M - s))) (s2 : S2.Pairwise RT) (p2 : S2.Perm (A.drop s ++ B.drop (M - s))) :
    (S1 ++ S2).Pairwise RT ∧ (S1 ++ S2).Perm (A ++ B) := by
  obtain ⟨h1, h2, h3, h4, h5⟩ := h
  have c := cut_keys (k := kT) (t := pT) t.1 t.2.1 h1 h3 (by rcases h4 with h | h
                                                             · by_cases e : s = 0
                                                               · exact .inl e
                                                               · exact .inr (.inl (by omega))
                                                             · exact .inr (.inr h)) (by rcases h5 with h | h
                                                                                        · by_cases e : M - s = 0
                                                                                          · exact .inl e
                                                                                          · exact .inr (.inl (by omega))
                                                                                        · exact .inr (.inr h))
  have e1 := List.take_append_drop s A
  have e2 := List.take_append_drop (M - s) B
  have := merge_cut (k := kT) (t := pT) (A1 := A.take s) (A2 := A.drop s) (B1 := B.take (M - s)) (B2 := B.drop (M - s)) (by rw [e1]; exact t.1) (by rw [e2]; exact t.2.1) (by rw [e1, e2]; exact t.2.2) c.1 c.2 s1 p1 s2 p2
  rw [e1, e2] at this
  exact this
set_option maxHeartbeats 4000000 in
theorem merge_gen (G : Nat → AVal) (pre post : List AVal) (N pb L cap : Nat) (hL1 : L ≤ 1000) (A B : List Wt) (hT : Two A B) (hA2 : 2 ≤ A.length) (hB2 : 2 ≤ B.length)
    (ih : ∀ A' B' : List Wt, A'.length + B'.length < A.length + B.length → 1 ≤ A'.length → 1 ≤ B'.length → Two A' B' → MergeAt G pre post N pb L cap A' B') : MergeAt G pre post N pb L cap A B := by
  intro X Y a c b m K hL ha hc hb hm hK
  have HK := Hid.mk hK
  have HM := Hid.mk hm
  obtain ⟨u, hu⟩ : ∃ u, u = A.length := ⟨_, rfl⟩
  obtain ⟨v, hv⟩ : ∃ v, v = B.length := ⟨_, rfl⟩
  obtain ⟨M, hM⟩ : ∃ M, M = (u + v) / 2 := ⟨_, rfl⟩
  obtain ⟨md, hmd⟩ : ∃ md, md = a + M := ⟨_, rfl⟩
  obtain ⟨nn, hnn⟩ : ∃ nn, nn = md + c := ⟨_, rfl⟩
  obtain ⟨pp, hpp⟩ : ∃ pp, nn = pp + 1 := ⟨nn - 1, by omega⟩
  have hLs : X.length + (u + (v + Y.length)) = L := by simp only [List.length_append] at hL; omega
  have H0 : Hid (a = X.length ∧ c = a + u ∧ b = a + u + v ∧ u = A.length ∧ v = B.length ∧ M = (u + v) / 2 ∧ md = a + M ∧ nn = md + c ∧ nn = pp + 1 ∧ X.length + (u + (v + Y.length)) = L ∧ 2 ≤ u ∧ 2 ≤ v) := .mk ⟨ha, by omega, by omega, hu, hv, hM, hmd, hnn, hpp, hLs, by omega, by omega⟩
  have IH := Hid.mk ih
  have HT := Hid.mk hT
  have w1 : IntKind.i64.wrap ((c : Int) - (a : Int)) = (u : Int) := by rw [wrap_i64 (by omega) (by omega)]; omega
  have ne1 : ¬ (u : Int) = 1 := by omega
  have w2 : IntKind.i64.wrap ((b : Int) - (c : Int)) = (v : Int) := by rw [wrap_i64 (by omega) (by omega)]; omega
  have ne2 : ¬ (v : Int) = 1 := by omega
  have w3 : IntKind.i64.wrap ((a : Int) + (b : Int)) = ((a + b : Nat) : Int) := by rw [wrap_i64 (by omega) (by omega)]; omega
  have w4 := half_u (a + b) (by omega)
  have w5 := half_s (a + b) md (by omega)
  have w6 := i64_nat md (by omega)
  have w7 : IntKind.i64.wrap ((md : Int) + (c : Int)) = (nn : Int) := by rw [wrap_i64 (by omega) (by omega)]; omega
  have w9 : IntKind.i64.wrap ((nn : Int) - 1) = (pp : Int) := by rw [wrap_i64 (by omega) (by omega)]; omega
  have hbL : b ≤ L := by omega
  have hcB : c ≤ b := by omega
  have hn3 : nn ≤ 2000 := by omega
  clear hK hL ha hc hb hA2 hB2 ih hT hu hv hM hmd hnn hpp hLs
  refine callWP_body Try.func75 rfl (N := 220) rfl (rs := []) rfl en_75 (of_decide_eq_true rfl) ?_
  have hcm : ∃ s0 r0 : Nat, Hid (s0 = M - v ∧ r0 = min u M) ∧ ((∃ c1 : (md : Int) < (c : Int), IntKind.i64.wrap ((nn : Int) - (b : Int)) = ((a + s0 : Nat) : Int) ∧ Hid (md = a + r0)) ∨ (∃ c1 : ¬ (md : Int) < (c : Int), Hid (a = a + s0 ∧ c = a + r0))) := by
    have q := H0.out
    refine ⟨M - v, min u M, .mk ⟨rfl, rfl⟩, ?_⟩
    by_cases h : md < c
    · refine .inl ⟨by omega, ?_, .mk (by omega)⟩
      rw [wrap_i64 (by omega) (by omega)]; omega
    · exact .inr ⟨by omega, .mk (by omega)⟩
  obtain ⟨s0, r0, HS, hcm⟩ := hcm
  rcases hcm with ⟨c1, w8, HR⟩ | ⟨c1, HR⟩
  all_goals (
    repeat' (first | exact tf0 ‹_› | exact tf1 ‹_› | exact False.elim ‹_› | (with_reducible refine Al.intro ?_; intro pb hpb; (try simp only [hupd_none'] at hpb); (repeat rcases hpb with ⟨⟨hpx, hpy⟩, hpb⟩)) | with_reducible refine need ?_ | ((with_reducible first | refine frk0 ?_ ?_ | refine frk1 ?_ ?_ | refine frk2 ?_ ?_ | refine frk3 ?_ ?_ | refine frk4 ?_ ?_ | refine frk5 ?_ ?_ | refine frk6 ?_ ?_ | refine frk7 ?_ ?_ | refine frk8 ?_ ?_ | refine frk9 ?_ ?_) <;> intro h <;> try (exfalso; omega)) | with_reducible refine quiet_and ?_ ?_ | with_reducible refine awp_drawnA mixed (by decide +kernel) ?_ | ((fail_if_success with_reducible refine stp ?_); simp -implicitDefEqProofs only [go_sem, Nat.reduceEqDiff, Nat.reduceAdd, Nat.reduceLT, Nat.reduceMul, Nat.reduceSub, Nat.reduceLeDiff, ↓reduceIte, reduceCtorEq, ↓String.reduceEq, String.reduceNe, Int.reduceToNat, Int.reduceLT, Int.reduceLE, Int.reduceGT, Int.reduceGE, Int.reduceEq, Int.reduceNe, Int.reduceBEq, Int.reduceBNe, Int.reduceAdd, Int.reduceSub, Int.reduceMul, Int.reduceNeg,  *]))
    refine awp_loopP 8 (fun ts m2 => ∃ s : Nat, Hid (Cut A B M s) ∧ ts 0 = .slice pb pre.length L cap ∧ ts 1 = .int .i64 a ∧ ts 2 = .int .i64 c ∧ ts 3 = .int .i64 b ∧ ts 4 = cameV ∧ ts 18 = .int .i64 md ∧ ts 19 = .int .i64 nn ∧ ts 20 = .int .i64 ((a + s : Nat) : Int) ∧ m2 = m)
      (fun k ts m2 => ∃ i j : Nat, Hid (k = j - i ∧ s0 ≤ i ∧ i ≤ j ∧ j ≤ r0 ∧ (i = s0 ∨ kT (A.getD (i - 1) default) ≤ kT (B.getD (M - i) default)) ∧ (j = r0 ∨ kT (B.getD (M - j - 1) default) < kT (A.getD j default))) ∧ ts 0 = .slice pb pre.length L cap ∧ ts 1 = .int .i64 a ∧ ts 2 = .int .i64 c ∧ ts 3 = .int .i64 b ∧ ts 4 = cameV ∧ ts 18 = .int .i64 md ∧ ts 19 = .int .i64 nn ∧ ts 22 = .int .i64 pp ∧ ts 20 = .int .i64 ((a + i : Nat) : Int) ∧ ts 21 = .int .i64 ((a + j : Nat) : Int) ∧ m2 = m) (r0 - s0)
      ⟨s0, r0, .mk ⟨rfl, Nat.le_refl _, by have := HS.out; have := H0.out; omega, Nat.le_refl _, .inl rfl, .inl rfl⟩, ttt, ttt, ttt, ttt, ttt, ttt, ttt, ttt, by first | exact (ttt) | (have q := HR.out; rw [← q.1]; exact (ttt)), by first | (have q := HR.out; rw [← q.2]; exact (ttt)) | (have q := HR.out; rw [← q]; exact (ttt)), rfl⟩ ?_ ?_
    · rintro k ts m2 ⟨i, j, H, t0, t1, t2, t3, t4, t18, t19, t22, t20, t21, hm2⟩
      subst m2
      by_cases hij : i < j
      · have lt : ((a + i : Nat) : Int) < ((a + j : Nat) : Int) := by omega
        obtain ⟨h, hh⟩ : ∃ h, h = (i + j) / 2 := ⟨_, rfl⟩
        have hb2 : a + j ≤ c ∧ h < u ∧ h < M ∧ M - h - 1 < v ∧ i ≤ h ∧ h < j := by have q1 := H.out; have q2 := HS.out; have q3 := H0.out; omega
        have v3 : IntKind.i64.wrap (((a + i : Nat) : Int) + ((a + j : Nat) : Int)) = ((a + i + (a + j) : Nat) : Int) := by rw [wrap_i64 (by omega) (by omega)]; omega
        have v4 := half_u (a + i + (a + j)) (by omega)
        have v5 := half_s (a + i + (a + j)) (a + h) (by omega)
        have v6 := i64_nat (a + h) (by omega)
        have v7 : IntKind.i64.wrap (((a + h : Nat) : Int) + 1) = ((a + (h + 1) : Nat) : Int) := by rw [wrap_i64 (by omega) (by omega)]; omega
        have v8 : IntKind.i64.wrap ((pp : Int) - ((a + h : Nat) : Int)) = ((c + (M - h - 1) : Nat) : Int) := by have q3 := H0.out; rw [wrap_i64 (by omega) (by omega)]; omega
        have hhA : h < A.length := by have q := H0.out; omega
        have hhB : M - h - 1 < B.length := by have q := H0.out; omega
        obtain ⟨x, hx⟩ : ∃ x, A.getD h default = x := ⟨_, rfl⟩
        obtain ⟨y, hy⟩ : ∃ y, B.getD (M - h - 1) default = y := ⟨_, rfl⟩
        obtain ⟨C, hC⟩ : ∃ C, C = X ++ (A ++ (B ++ Y)) := ⟨_, rfl⟩
        have hA1 := cut_at A h hhA
        have hB1 := cut_at B (M - h - 1) hhB
        rw [hx] at hA1
        rw [hy] at hB1
        obtain ⟨g1, l1⟩ := rd (C := C) (P := X ++ A.take h) (Q := A.drop (h + 1) ++ (B ++ Y)) (x := x) (by rw [hC]; conv => lhs; rw [hA1]
                                                                                                           simp) pre post (i := a + h) (by have q := H0.out; simp only [List.length_append, List.length_take]; omega)
        obtain ⟨g2, l2⟩ := rd (C := C) (P := X ++ (A ++ B.take (M - h - 1))) (Q := B.drop (M - h - 1 + 1) ++ Y) (x := y) (by rw [hC]; conv => lhs; rw [hB1]
                                                                                                                             simp) pre post (i := c + (M - h - 1)) (by have q := H0.out; simp only [List.length_append, List.length_take]; omega)
        have hm' := hm
        rw [← hC] at hm'
        have haL : a + h < L := by omega
        have hcL : c + (M - h - 1) < L := by have q := H0.out; omega
        have HX := Hid.mk (And.intro hx hy)
        have HH := Hid.mk hb2
        clear HM hC hA1 hB1 hh hx hy hm hb2 hhA hhB
        repeat' (first | exact tf0 ‹_› | exact tf1 ‹_› | exact False.elim ‹_› | (with_reducible refine Al.intro ?_; intro pb hpb; (try simp only [hupd_none'] at hpb); (repeat rcases hpb with ⟨⟨hpx, hpy⟩, hpb⟩)) | with_reducible refine need ?_ | ((with_reducible first | refine frk0 ?_ ?_ | refine frk1 ?_ ?_ | refine frk2 ?_ ?_ | refine frk3 ?_ ?_ | refine frk4 ?_ ?_ | refine frk5 ?_ ?_ | refine frk6 ?_ ?_ | refine frk7 ?_ ?_ | refine frk8 ?_ ?_ | refine frk9 ?_ ?_) <;> intro h <;> try (exfalso; omega)) | with_reducible refine quiet_and ?_ ?_ | with_reducible refine awp_drawnA mixed (by decide +kernel) ?_ | ((fail_if_success with_reducible refine stp ?_); simp -implicitDefEqProofs only [go_sem, Nat.reduceEqDiff, Nat.reduceAdd, Nat.reduceLT, Nat.reduceMul, Nat.reduceSub, Nat.reduceLeDiff, ↓reduceIte, reduceCtorEq, ↓String.reduceEq, String.reduceNe, Int.reduceToNat, Int.reduceLT, Int.reduceLE, Int.reduceGT, Int.reduceGE, Int.reduceEq, Int.reduceNe, Int.reduceBEq, Int.reduceBNe, Int.reduceAdd, Int.reduceSub, Int.reduceMul, Int.reduceNeg,  rowB, *]))
        refine CallWP.to (came_spec G y x _) ?_
        by_cases hk : kT y < kT x
        · have cl : cmpI y.1.2.1 x.1.2.1 < 0 := (of_decide_eq_true ((cmp_lt _ _).trans (decide_eq_true hk)))
          repeat' (first | exact tf0 ‹_› | exact tf1 ‹_› | exact False.elim ‹_› | (with_reducible refine Al.intro ?_; intro pb hpb; (try simp only [hupd_none'] at hpb); (repeat rcases hpb with ⟨⟨hpx, hpy⟩, hpb⟩)) | with_reducible refine need ?_ | ((with_reducible first | refine frk0 ?_ ?_ | refine frk1 ?_ ?_ | refine frk2 ?_ ?_ | refine frk3 ?_ ?_ | refine frk4 ?_ ?_ | refine frk5 ?_ ?_ | refine frk6 ?_ ?_ | refine frk7 ?_ ?_ | refine frk8 ?_ ?_ | refine frk9 ?_ ?_) <;> intro h <;> try (exfalso; omega)) | with_reducible refine quiet_and ?_ ?_ | with_reducible refine awp_drawnA mixed (by decide +kernel) ?_ | ((fail_if_success with_reducible refine stp ?_); simp -implicitDefEqProofs only [go_sem, Nat.reduceEqDiff, Nat.reduceAdd, Nat.reduceLT, Nat.reduceMul, Nat.reduceSub, Nat.reduceLeDiff, ↓reduceIte, reduceCtorEq, ↓String.reduceEq, String.reduceNe, Int.reduceToNat, Int.reduceLT, Int.reduceLE, Int.reduceGT, Int.reduceGE, Int.reduceEq, Int.reduceNe, Int.reduceBEq, Int.reduceBNe, Int.reduceAdd, Int.reduceSub, Int.reduceMul, Int.reduceNeg,  rowB, *]))
          exact Again.intro ⟨h - i, by have := H.out; have := HH.out; omega, _, Sub.refl _, i, h, .mk ⟨rfl, H.out.2.1, HH.out.2.2.2.2.1, by have := H.out; have := HH.out; omega, H.out.2.2.2.2.1, .inr (by rw [HX.out.1, HX.out.2]; exact hk)⟩, (by first | (simp only [upd, put, Nat.reduceEqDiff, ↓reduceIte, t0]; done) | (simp [upd, put, t0]; done) | rfl | (simp [upd, put, t0]; rfl)), (by first | (simp only [upd, put, Nat.reduceEqDiff, ↓reduceIte, t1]; done) | (simp [upd, put, t1]; done) | rfl | (simp [upd, put, t1]; rfl)), (by first | (simp only [upd, put, Nat.reduceEqDiff, ↓reduceIte, t2]; done) | (simp [upd, put, t2]; done) | rfl | (simp [upd, put, t2]; rfl)), (by first | (simp only [upd, put, Nat.reduceEqDiff, ↓reduceIte, t3]; done) | (simp [upd, put, t3]; done) | rfl | (simp [upd, put, t3]; rfl)), (by first | (simp only [upd, put, Nat.reduceEqDiff, ↓reduceIte, t4]; done) | (simp [upd, put, t4]; done) | rfl | (simp [upd, put, t4]; rfl)), (by first | (simp only [upd, put, Nat.reduceEqDiff, ↓reduceIte, t18]; done) | (simp [upd, put, t18]; done) | rfl | (simp [upd, put, t18]; rfl)), (by first | (simp only [upd, put, Nat.reduceEqDiff, ↓reduceIte, t19]; done) | (simp [upd, put, t19]; done) | rfl | (simp [upd, put, t19]; rfl)), (by first | (simp only [upd, put, Nat.reduceEqDiff, ↓reduceIte, t22]; done) | (simp [upd, put, t22]; done) | rfl | (simp [upd, put, t22]; rfl)), (by first | (simp only [upd, put, Nat.reduceEqDiff, ↓reduceIte, t20]; done) | (simp [upd, put, t20]; done) | rfl | (simp [upd, put, t20]; rfl)), ttt, rfl⟩
        · have cl : ¬ cmpI y.1.2.1 x.1.2.1 < 0 := (of_decide_eq_false ((cmp_lt _ _).trans (decide_eq_false hk)))
          repeat' (first | exact tf0 ‹_› | exact tf1 ‹_› | exact False.elim ‹_› | (with_reducible refine Al.intro ?_; intro pb hpb; (try simp only [hupd_none'] at hpb); (repeat rcases hpb with ⟨⟨hpx, hpy⟩, hpb⟩)) | with_reducible refine need ?_ | ((with_reducible first | refine frk0 ?_ ?_ | refine frk1 ?_ ?_ | refine frk2 ?_ ?_ | refine frk3 ?_ ?_ | refine frk4 ?_ ?_ | refine frk5 ?_ ?_ | refine frk6 ?_ ?_ | refine frk7 ?_ ?_ | refine frk8 ?_ ?_ | refine frk9 ?_ ?_) <;> intro h <;> try (exfalso; omega)) | with_reducible refine quiet_and ?_ ?_ | with_reducible refine awp_drawnA mixed (by decide +kernel) ?_ | ((fail_if_success with_reducible refine stp ?_); simp -implicitDefEqProofs only [go_sem, Nat.reduceEqDiff, Nat.reduceAdd, Nat.reduceLT, Nat.reduceMul, Nat.reduceSub, Nat.reduceLeDiff, ↓reduceIte, reduceCtorEq, ↓String.reduceEq, String.reduceNe, Int.reduceToNat, Int.reduceLT, Int.reduceLE, Int.reduceGT, Int.reduceGE, Int.reduceEq, Int.reduceNe, Int.reduceBEq, Int.reduceBNe, Int.reduceAdd, Int.reduceSub, Int.reduceMul, Int.reduceNeg,  rowB, *]))
          exact Again.intro ⟨j - (h + 1), by have := H.out; have := HH.out; omega, _, Sub.refl _, h + 1, j, .mk ⟨rfl, by have := H.out; have := HH.out; omega, by have := HH.out; omega, H.out.2.2.2.1, .inr (by rw [Nat.add_sub_cancel, HX.out.1, show M - (h + 1) = M - h - 1 by omega, HX.out.2]; omega), H.out.2.2.2.2.2⟩, (by first | (simp only [upd, put, Nat.reduceEqDiff, ↓reduceIte, t0]; done) | (simp [upd, put, t0]; done) | rfl | (simp [upd, put, t0]; rfl)), (by first | (simp only [upd, put, Nat.reduceEqDiff, ↓reduceIte, t1]; done) | (simp [upd, put, t1]; done) | rfl | (simp [upd, put, t1]; rfl)), (by first | (simp only [upd, put, Nat.reduceEqDiff, ↓reduceIte, t2]; done) | (simp [upd, put, t2]; done) | rfl | (simp [upd, put, t2]; rfl)), (by first | (simp only [upd, put, Nat.reduceEqDiff, ↓reduceIte, t3]; done) | (simp [upd, put, t3]; done) | rfl | (simp [upd, put, t3]; rfl)), (by first | (simp only [upd, put, Nat.reduceEqDiff, ↓reduceIte, t4]; done) | (simp [upd, put, t4]; done) | rfl | (simp [upd, put, t4]; rfl)), (by first | (simp only [upd, put, Nat.reduceEqDiff, ↓reduceIte, t18]; done) | (simp [upd, put, t18]; done) | rfl | (simp [upd, put, t18]; rfl)), (by first | (simp only [upd, put, Nat.reduceEqDiff, ↓reduceIte, t19]; done) | (simp [upd, put, t19]; done) | rfl | (simp [upd, put, t19]; rfl)), (by first | (simp only [upd, put, Nat.reduceEqDiff, ↓reduceIte, t22]; done) | (simp [upd, put, t22]; done) | rfl | (simp [upd, put, t22]; rfl)), ttt, (by first | (simp only [upd, put, Nat.reduceEqDiff, ↓reduceIte, t21]; done) | (simp [upd, put, t21]; done) | rfl | (simp [upd, put, t21]; rfl)), rfl⟩
      · have lt : ¬ ((a + i : Nat) : Int) < ((a + j : Nat) : Int) := by omega
        repeat' (first | exact tf0 ‹_› | exact tf1 ‹_› | exact False.elim ‹_› | (with_reducible refine Al.intro ?_; intro pb hpb; (try simp only [hupd_none'] at hpb); (repeat rcases hpb with ⟨⟨hpx, hpy⟩, hpb⟩)) | with_reducible refine need ?_ | ((with_reducible first | refine frk0 ?_ ?_ | refine frk1 ?_ ?_ | refine frk2 ?_ ?_ | refine frk3 ?_ ?_ | refine frk4 ?_ ?_ | refine frk5 ?_ ?_ | refine frk6 ?_ ?_ | refine frk7 ?_ ?_ | refine frk8 ?_ ?_ | refine frk9 ?_ ?_) <;> intro h <;> try (exfalso; omega)) | with_reducible refine quiet_and ?_ ?_ | with_reducible refine awp_drawnA mixed (by decide +kernel) ?_ | ((fail_if_success with_reducible refine stp ?_); simp -implicitDefEqProofs only [go_sem, Nat.reduceEqDiff, Nat.reduceAdd, Nat.reduceLT, Nat.reduceMul, Nat.reduceSub, Nat.reduceLeDiff, ↓reduceIte, reduceCtorEq, ↓String.reduceEq, String.reduceNe, Int.reduceToNat, Int.reduceLT, Int.reduceLE, Int.reduceGT, Int.reduceGE, Int.reduceEq, Int.reduceNe, Int.reduceBEq, Int.reduceBNe, Int.reduceAdd, Int.reduceSub, Int.reduceMul, Int.reduceNeg,  *]))
        exact Again.intro ⟨i, .mk (by
          have h := H.out
          have q := HS.out
          have q0 := H0.out
          have e : i = j := by omega
          subst e
          refine ⟨by omega, by omega, by omega, ?_, ?_⟩
          · rcases h.2.2.2.2.1 with e | e
            · exact .inl (by omega)
            · exact .inr e
          · rcases h.2.2.2.2.2 with e | e
            · exact .inl (by omega)
            · exact .inr e), (by first | (simp only [upd, put, Nat.reduceEqDiff, ↓reduceIte, t0]; done) | (simp [upd, put, t0]; done) | rfl | (simp [upd, put, t0]; rfl)), (by first | (simp only [upd, put, Nat.reduceEqDiff, ↓reduceIte, t1]; done) | (simp [upd, put, t1]; done) | rfl | (simp [upd, put, t1]; rfl)), (by first | (simp only [upd, put, Nat.reduceEqDiff, ↓reduceIte, t2]; done) | (simp [upd, put, t2]; done) | rfl | (simp [upd, put, t2]; rfl)), (by first | (simp only [upd, put, Nat.reduceEqDiff, ↓reduceIte, t3]; done) | (simp [upd, put, t3]; done) | rfl | (simp [upd, put, t3]; rfl)), (by first | (simp only [upd, put, Nat.reduceEqDiff, ↓reduceIte, t4]; done) | (simp [upd, put, t4]; done) | rfl | (simp [upd, put, t4]; rfl)), (by first | (simp only [upd, put, Nat.reduceEqDiff, ↓reduceIte, t18]; done) | (simp [upd, put, t18]; done) | rfl | (simp [upd, put, t18]; rfl)), (by first | (simp only [upd, put, Nat.reduceEqDiff, ↓reduceIte, t19]; done) | (simp [upd, put, t19]; done) | rfl | (simp [upd, put, t19]; rfl)), (by first | (simp only [upd, put, Nat.reduceEqDiff, ↓reduceIte, t20]; done) | (simp [upd, put, t20]; done) | rfl | (simp [upd, put, t20]; rfl)), rfl⟩
    · rintro ts m2 ⟨s, H, t0, t1, t2, t3, t4, t18, t19, t20, hm2⟩
      subst m2
      obtain ⟨A1, hA1⟩ : ∃ A1, A1 = A.take s := ⟨_, rfl⟩
      obtain ⟨A2, hA2⟩ : ∃ A2, A2 = A.drop s := ⟨_, rfl⟩
      obtain ⟨B1, hB1⟩ : ∃ B1, B1 = B.take (M - s) := ⟨_, rfl⟩
      obtain ⟨B2, hB2⟩ : ∃ B2, B2 = B.drop (M - s) := ⟨_, rfl⟩
      obtain ⟨ed, hed⟩ : ∃ ed, ed = c + (M - s) := ⟨_, rfl⟩
      have LEN : Hid (A1.length = s ∧ A2.length = u - s ∧ B1.length = M - s ∧ B2.length = v - (M - s) ∧ s ≤ u ∧ s ≤ M ∧ M - s ≤ v ∧ ed = c + (M - s)) := .mk (by
        have q := H0.out
        have h := H.out
        obtain ⟨h1, h2, h3, -, -⟩ := h
        rw [hA1, hA2, hB1, hB2, List.length_take, List.length_drop, List.length_take, List.length_drop]
        omega)
      have eA : A = A1 ++ A2 := by rw [hA1, hA2, List.take_append_drop]
      have eB : B = B1 ++ B2 := by rw [hB1, hB2, List.take_append_drop]
      have T1 : Hid (Two A1 B1) := .mk (by rw [hA1, hB1]; exact HT.out.left _ _)
      have T2 : Hid (Two A2 B2) := .mk (by rw [hA2, hB2]; exact HT.out.right _ _)
      have FIT : Hid (∀ S1 S2 : List Wt, S1.Pairwise RT → S1.Perm (A1 ++ B1) → S2.Pairwise RT → S2.Perm (A2 ++ B2) → K (.tuple []) (hupd m pb (rowB pre post N (X ++ (S1 ++ (S2 ++ Y)))))) := .mk (by
        intro S1 S2 s1 p1 s2 p2
        rw [hA1, hB1] at p1
        rw [hA2, hB2] at p2
        obtain ⟨f1, f2⟩ := H.out.fit HT.out s1 p1 s2 p2
        have := HK.out _ f1 f2
        rwa [List.append_assoc] at this)
      have HM2 : Hid (m pb = some (rowB pre post N (X ++ (A1 ++ (A2 ++ (B1 ++ (B2 ++ Y))))))) := .mk (by rw [hm, eA, eB]; simp only [List.append_assoc])
      have z1 : IntKind.i64.wrap ((nn : Int) - ((a + s : Nat) : Int)) = (ed : Int) := by have q := H0.out; have := LEN.out; rw [wrap_i64 (by omega) (by omega)]; omega
      clear hA1 hA2 hB1 hB2 hed hm eA eB HM
      have q := H0.out
      have l := LEN.out
      by_cases e1 : s < u
      · by_cases e2 : s < M
        · by_cases e3 : 0 < s
          · by_cases e4 : M - s < v
            · have d1 :  ((a + s : Nat) : Int) < (c : Int) := by omega
              have d2 :  ((c : Int) : Int) < (ed : Int) := by omega
              have d3 :  ((a : Int) : Int) < ((a + s : Nat) : Int) := by omega
              have d4 :  ((a + s : Nat) : Int) < (md : Int) := by omega
              have d5 :  (md : Int) < (ed : Int) := by omega
              have d6 :  (ed : Int) < (b : Int) := by omega
              clear q l
              repeat' (first | exact tf0 ‹_› | exact tf1 ‹_› | exact False.elim ‹_› | (with_reducible refine Al.intro ?_; intro pb hpb; (try simp only [hupd_none'] at hpb); (repeat rcases hpb with ⟨⟨hpx, hpy⟩, hpb⟩)) | with_reducible refine need ?_ | ((with_reducible first | refine frk0 ?_ ?_ | refine frk1 ?_ ?_ | refine frk2 ?_ ?_ | refine frk3 ?_ ?_ | refine frk4 ?_ ?_ | refine frk5 ?_ ?_ | refine frk6 ?_ ?_ | refine frk7 ?_ ?_ | refine frk8 ?_ ?_ | refine frk9 ?_ ?_) <;> intro h <;> try (exfalso; omega)) | with_reducible refine quiet_and ?_ ?_ | with_reducible refine awp_drawnA mixed (by decide +kernel) ?_ | ((fail_if_success with_reducible refine stp ?_); simp -implicitDefEqProofs only [go_sem, Nat.reduceEqDiff, Nat.reduceAdd, Nat.reduceLT, Nat.reduceMul, Nat.reduceSub, Nat.reduceLeDiff, ↓reduceIte, reduceCtorEq, ↓String.reduceEq, String.reduceNe, Int.reduceToNat, Int.reduceLT, Int.reduceLE, Int.reduceGT, Int.reduceGE, Int.reduceEq, Int.reduceNe, Int.reduceBEq, Int.reduceBNe, Int.reduceAdd, Int.reduceSub, Int.reduceMul, Int.reduceNeg,  *]))
              refine rotate_spec G cameV (X ++ A1) A2 B1 (B2 ++ Y) (by have q := H0.out; have l := LEN.out; omega) (by have q := H0.out; have l := LEN.out; omega) (by have q := H0.out; have l := LEN.out; (try simp only [List.length_append]); omega) pre post N pb L cap _ _ _ (by have q := H0.out; have l := LEN.out; (try simp only [List.length_append]); omega) (by have q := H0.out; have l := LEN.out; (try simp only [List.length_append]); omega) (by have q := H0.out; have l := LEN.out; (try simp only [List.length_append]); omega) (by have q := H0.out; have l := LEN.out; (try simp only [List.length_append]); omega) _ _ (by rw [HM2.out]; (try simp only [List.append_assoc])) ?_
              repeat' (first | exact tf0 ‹_› | exact tf1 ‹_› | exact False.elim ‹_› | (with_reducible refine Al.intro ?_; intro pb hpb; (try simp only [hupd_none'] at hpb); (repeat rcases hpb with ⟨⟨hpx, hpy⟩, hpb⟩)) | with_reducible refine need ?_ | ((with_reducible first | refine frk0 ?_ ?_ | refine frk1 ?_ ?_ | refine frk2 ?_ ?_ | refine frk3 ?_ ?_ | refine frk4 ?_ ?_ | refine frk5 ?_ ?_ | refine frk6 ?_ ?_ | refine frk7 ?_ ?_ | refine frk8 ?_ ?_ | refine frk9 ?_ ?_) <;> intro h <;> try (exfalso; omega)) | with_reducible refine quiet_and ?_ ?_ | with_reducible refine awp_drawnA mixed (by decide +kernel) ?_ | ((fail_if_success with_reducible refine stp ?_); simp -implicitDefEqProofs only [go_sem, Nat.reduceEqDiff, Nat.reduceAdd, Nat.reduceLT, Nat.reduceMul, Nat.reduceSub, Nat.reduceLeDiff, ↓reduceIte, reduceCtorEq, ↓String.reduceEq, String.reduceNe, Int.reduceToNat, Int.reduceLT, Int.reduceLE, Int.reduceGT, Int.reduceGE, Int.reduceEq, Int.reduceNe, Int.reduceBEq, Int.reduceBNe, Int.reduceAdd, Int.reduceSub, Int.reduceMul, Int.reduceNeg,  *]))
              refine IH.out A1 B1 (by have q := H0.out; have l := LEN.out; omega) (by have q := H0.out; have l := LEN.out; omega) (by have q := H0.out; have l := LEN.out; omega) T1.out X (A2 ++ (B2 ++ Y)) _ _ _ _ _ (by have q := H0.out; have l := LEN.out; (try simp only [List.length_append]); omega) (by have q := H0.out; have l := LEN.out; omega) (by have q := H0.out; have l := LEN.out; omega) (by have q := H0.out; have l := LEN.out; (try simp only [List.length_append]); omega) (by rw [hupd_at, if_pos rfl]; (try simp only [List.append_assoc])) ?_
              intro S1 s1 p1
              have LS := Hid.mk p1.length_eq
              have HP1 := Hid.mk p1
              clear p1
              repeat' (first | exact tf0 ‹_› | exact tf1 ‹_› | exact False.elim ‹_› | (with_reducible refine Al.intro ?_; intro pb hpb; (try simp only [hupd_none'] at hpb); (repeat rcases hpb with ⟨⟨hpx, hpy⟩, hpb⟩)) | with_reducible refine need ?_ | ((with_reducible first | refine frk0 ?_ ?_ | refine frk1 ?_ ?_ | refine frk2 ?_ ?_ | refine frk3 ?_ ?_ | refine frk4 ?_ ?_ | refine frk5 ?_ ?_ | refine frk6 ?_ ?_ | refine frk7 ?_ ?_ | refine frk8 ?_ ?_ | refine frk9 ?_ ?_) <;> intro h <;> try (exfalso; omega)) | with_reducible refine quiet_and ?_ ?_ | with_reducible refine awp_drawnA mixed (by decide +kernel) ?_ | ((fail_if_success with_reducible refine stp ?_); simp -implicitDefEqProofs only [go_sem, Nat.reduceEqDiff, Nat.reduceAdd, Nat.reduceLT, Nat.reduceMul, Nat.reduceSub, Nat.reduceLeDiff, ↓reduceIte, reduceCtorEq, ↓String.reduceEq, String.reduceNe, Int.reduceToNat, Int.reduceLT, Int.reduceLE, Int.reduceGT, Int.reduceGE, Int.reduceEq, Int.reduceNe, Int.reduceBEq, Int.reduceBNe, Int.reduceAdd, Int.reduceSub, Int.reduceMul, Int.reduceNeg,  *]))
              refine IH.out A2 B2 (by have q := H0.out; have l := LEN.out; have e := LS.out; (try simp only [List.length_append] at e ⊢); omega) (by have q := H0.out; have l := LEN.out; omega) (by have q := H0.out; have l := LEN.out; omega) T2.out (X ++ (S1)) Y _ _ _ _ _ (by have q := H0.out; have l := LEN.out; have e := LS.out; (try simp only [List.length_append] at e ⊢); omega) (by have q := H0.out; have l := LEN.out; have e := LS.out; (try simp only [List.length_append] at e ⊢); omega) (by have q := H0.out; have l := LEN.out; have e := LS.out; (try simp only [List.length_append] at e ⊢); omega) (by have q := H0.out; have l := LEN.out; have e := LS.out; (try simp only [List.length_append] at e ⊢); omega) (by rw [hupd_at, if_pos rfl]; (try simp only [List.append_assoc])) ?_
              intro S2 s2 p2
              repeat' (first | exact tf0 ‹_› | exact tf1 ‹_› | exact False.elim ‹_› | (with_reducible refine Al.intro ?_; intro pb hpb; (try simp only [hupd_none'] at hpb); (repeat rcases hpb with ⟨⟨hpx, hpy⟩, hpb⟩)) | with_reducible refine need ?_ | ((with_reducible first | refine frk0 ?_ ?_ | refine frk1 ?_ ?_ | refine frk2 ?_ ?_ | refine frk3 ?_ ?_ | refine frk4 ?_ ?_ | refine frk5 ?_ ?_ | refine frk6 ?_ ?_ | refine frk7 ?_ ?_ | refine frk8 ?_ ?_ | refine frk9 ?_ ?_) <;> intro h <;> try (exfalso; omega)) | with_reducible refine quiet_and ?_ ?_ | with_reducible refine awp_drawnA mixed (by decide +kernel) ?_ | ((fail_if_success with_reducible refine stp ?_); simp -implicitDefEqProofs only [go_sem, Nat.reduceEqDiff, Nat.reduceAdd, Nat.reduceLT, Nat.reduceMul, Nat.reduceSub, Nat.reduceLeDiff, ↓reduceIte, reduceCtorEq, ↓String.reduceEq, String.reduceNe, Int.reduceToNat, Int.reduceLT, Int.reduceLE, Int.reduceGT, Int.reduceGE, Int.reduceEq, Int.reduceNe, Int.reduceBEq, Int.reduceBNe, Int.reduceAdd, Int.reduceSub, Int.reduceMul, Int.reduceNeg,  *]))
              exact ⟨_, Sub.refl _, by have := FIT.out S1 S2 s1 HP1.out s2 p2; simpa only [hupd_hupd, List.append_assoc, List.nil_append] using this⟩
            · have d1 :  ((a + s : Nat) : Int) < (c : Int) := by omega
              have d2 :  ((c : Int) : Int) < (ed : Int) := by omega
              have d3 :  ((a : Int) : Int) < ((a + s : Nat) : Int) := by omega
              have d4 :  ((a + s : Nat) : Int) < (md : Int) := by omega
              have d5 :  (md : Int) < (ed : Int) := by omega
              have d6 : ¬ (ed : Int) < (b : Int) := by omega
              clear q l
              repeat' (first | exact tf0 ‹_› | exact tf1 ‹_› | exact False.elim ‹_› | (with_reducible refine Al.intro ?_; intro pb hpb; (try simp only [hupd_none'] at hpb); (repeat rcases hpb with ⟨⟨hpx, hpy⟩, hpb⟩)) | with_reducible refine need ?_ | ((with_reducible first | refine frk0 ?_ ?_ | refine frk1 ?_ ?_ | refine frk2 ?_ ?_ | refine frk3 ?_ ?_ | refine frk4 ?_ ?_ | refine frk5 ?_ ?_ | refine frk6 ?_ ?_ | refine frk7 ?_ ?_ | refine frk8 ?_ ?_ | refine frk9 ?_ ?_) <;> intro h <;> try (exfalso; omega)) | with_reducible refine quiet_and ?_ ?_ | with_reducible refine awp_drawnA mixed (by decide +kernel) ?_ | ((fail_if_success with_reducible refine stp ?_); simp -implicitDefEqProofs only [go_sem, Nat.reduceEqDiff, Nat.reduceAdd, Nat.reduceLT, Nat.reduceMul, Nat.reduceSub, Nat.reduceLeDiff, ↓reduceIte, reduceCtorEq, ↓String.reduceEq, String.reduceNe, Int.reduceToNat, Int.reduceLT, Int.reduceLE, Int.reduceGT, Int.reduceGE, Int.reduceEq, Int.reduceNe, Int.reduceBEq, Int.reduceBNe, Int.reduceAdd, Int.reduceSub, Int.reduceMul, Int.reduceNeg,  *]))
              refine rotate_spec G cameV (X ++ A1) A2 B1 (B2 ++ Y) (by have q := H0.out; have l := LEN.out; omega) (by have q := H0.out; have l := LEN.out; omega) (by have q := H0.out; have l := LEN.out; (try simp only [List.length_append]); omega) pre post N pb L cap _ _ _ (by have q := H0.out; have l := LEN.out; (try simp only [List.length_append]); omega) (by have q := H0.out; have l := LEN.out; (try simp only [List.length_append]); omega) (by have q := H0.out; have l := LEN.out; (try simp only [List.length_append]); omega) (by have q := H0.out; have l := LEN.out; (try simp only [List.length_append]); omega) _ _ (by rw [HM2.out]; (try simp only [List.append_assoc])) ?_
              repeat' (first | exact tf0 ‹_› | exact tf1 ‹_› | exact False.elim ‹_› | (with_reducible refine Al.intro ?_; intro pb hpb; (try simp only [hupd_none'] at hpb); (repeat rcases hpb with ⟨⟨hpx, hpy⟩, hpb⟩)) | with_reducible refine need ?_ | ((with_reducible first | refine frk0 ?_ ?_ | refine frk1 ?_ ?_ | refine frk2 ?_ ?_ | refine frk3 ?_ ?_ | refine frk4 ?_ ?_ | refine frk5 ?_ ?_ | refine frk6 ?_ ?_ | refine frk7 ?_ ?_ | refine frk8 ?_ ?_ | refine frk9 ?_ ?_) <;> intro h <;> try (exfalso; omega)) | with_reducible refine quiet_and ?_ ?_ | with_reducible refine awp_drawnA mixed (by decide +kernel) ?_ | ((fail_if_success with_reducible refine stp ?_); simp -implicitDefEqProofs only [go_sem, Nat.reduceEqDiff, Nat.reduceAdd, Nat.reduceLT, Nat.reduceMul, Nat.reduceSub, Nat.reduceLeDiff, ↓reduceIte, reduceCtorEq, ↓String.reduceEq, String.reduceNe, Int.reduceToNat, Int.reduceLT, Int.reduceLE, Int.reduceGT, Int.reduceGE, Int.reduceEq, Int.reduceNe, Int.reduceBEq, Int.reduceBNe, Int.reduceAdd, Int.reduceSub, Int.reduceMul, Int.reduceNeg,  *]))
              refine IH.out A1 B1 (by have q := H0.out; have l := LEN.out; omega) (by have q := H0.out; have l := LEN.out; omega) (by have q := H0.out; have l := LEN.out; omega) T1.out X (A2 ++ (B2 ++ Y)) _ _ _ _ _ (by have q := H0.out; have l := LEN.out; (try simp only [List.length_append]); omega) (by have q := H0.out; have l := LEN.out; omega) (by have q := H0.out; have l := LEN.out; omega) (by have q := H0.out; have l := LEN.out; (try simp only [List.length_append]); omega) (by rw [hupd_at, if_pos rfl]; (try simp only [List.append_assoc])) ?_
              intro S1 s1 p1
              have LS := Hid.mk p1.length_eq
              have HP1 := Hid.mk p1
              clear p1
              repeat' (first | exact tf0 ‹_› | exact tf1 ‹_› | exact False.elim ‹_› | (with_reducible refine Al.intro ?_; intro pb hpb; (try simp only [hupd_none'] at hpb); (repeat rcases hpb with ⟨⟨hpx, hpy⟩, hpb⟩)) | with_reducible refine need ?_ | ((with_reducible first | refine frk0 ?_ ?_ | refine frk1 ?_ ?_ | refine frk2 ?_ ?_ | refine frk3 ?_ ?_ | refine frk4 ?_ ?_ | refine frk5 ?_ ?_ | refine frk6 ?_ ?_ | refine frk7 ?_ ?_ | refine frk8 ?_ ?_ | refine frk9 ?_ ?_) <;> intro h <;> try (exfalso; omega)) | with_reducible refine quiet_and ?_ ?_ | with_reducible refine awp_drawnA mixed (by decide +kernel) ?_ | ((fail_if_success with_reducible refine stp ?_); simp -implicitDefEqProofs only [go_sem, Nat.reduceEqDiff, Nat.reduceAdd, Nat.reduceLT, Nat.reduceMul, Nat.reduceSub, Nat.reduceLeDiff, ↓reduceIte, reduceCtorEq, ↓String.reduceEq, String.reduceNe, Int.reduceToNat, Int.reduceLT, Int.reduceLE, Int.reduceGT, Int.reduceGE, Int.reduceEq, Int.reduceNe, Int.reduceBEq, Int.reduceBNe, Int.reduceAdd, Int.reduceSub, Int.reduceMul, Int.reduceNeg,  *]))
              obtain rfl : B2 = [] := List.eq_nil_of_length_eq_zero (by have q := H0.out; have l := LEN.out; omega)
              exact ⟨_, Sub.refl _, by have := FIT.out S1 A2 s1 HP1.out T2.out.1 (by simp); simpa only [hupd_hupd, List.append_assoc, List.nil_append] using this⟩
          · by_cases e4 : M - s < v
            · have d1 :  ((a + s : Nat) : Int) < (c : Int) := by omega
              have d2 :  ((c : Int) : Int) < (ed : Int) := by omega
              have d3 : ¬ ((a : Int) : Int) < ((a + s : Nat) : Int) := by omega
              have d4 :  ((a + s : Nat) : Int) < (md : Int) := by omega
              have d5 :  (md : Int) < (ed : Int) := by omega
              have d6 :  (ed : Int) < (b : Int) := by omega
              clear q l
              repeat' (first | exact tf0 ‹_› | exact tf1 ‹_› | exact False.elim ‹_› | (with_reducible refine Al.intro ?_; intro pb hpb; (try simp only [hupd_none'] at hpb); (repeat rcases hpb with ⟨⟨hpx, hpy⟩, hpb⟩)) | with_reducible refine need ?_ | ((with_reducible first | refine frk0 ?_ ?_ | refine frk1 ?_ ?_ | refine frk2 ?_ ?_ | refine frk3 ?_ ?_ | refine frk4 ?_ ?_ | refine frk5 ?_ ?_ | refine frk6 ?_ ?_ | refine frk7 ?_ ?_ | refine frk8 ?_ ?_ | refine frk9 ?_ ?_) <;> intro h <;> try (exfalso; omega)) | with_reducible refine quiet_and ?_ ?_ | with_reducible refine awp_drawnA mixed (by decide +kernel) ?_ | ((fail_if_success with_reducible refine stp ?_); simp -implicitDefEqProofs only [go_sem, Nat.reduceEqDiff, Nat.reduceAdd, Nat.reduceLT, Nat.reduceMul, Nat.reduceSub, Nat.reduceLeDiff, ↓reduceIte, reduceCtorEq, ↓String.reduceEq, String.reduceNe, Int.reduceToNat, Int.reduceLT, Int.reduceLE, Int.reduceGT, Int.reduceGE, Int.reduceEq, Int.reduceNe, Int.reduceBEq, Int.reduceBNe, Int.reduceAdd, Int.reduceSub, Int.reduceMul, Int.reduceNeg,  *]))
              refine rotate_spec G cameV (X ++ A1) A2 B1 (B2 ++ Y) (by have q := H0.out; have l := LEN.out; omega) (by have q := H0.out; have l := LEN.out; omega) (by have q := H0.out; have l := LEN.out; (try simp only [List.length_append]); omega) pre post N pb L cap _ _ _ (by have q := H0.out; have l := LEN.out; (try simp only [List.length_append]); omega) (by have q := H0.out; have l := LEN.out; (try simp only [List.length_append]); omega) (by have q := H0.out; have l := LEN.out; (try simp only [List.length_append]); omega) (by have q := H0.out; have l := LEN.out; (try simp only [List.length_append]); omega) _ _ (by rw [HM2.out]; (try simp only [List.append_assoc])) ?_
              repeat' (first | exact tf0 ‹_› | exact tf1 ‹_› | exact False.elim ‹_› | (with_reducible refine Al.intro ?_; intro pb hpb; (try simp only [hupd_none'] at hpb); (repeat rcases hpb with ⟨⟨hpx, hpy⟩, hpb⟩)) | with_reducible refine need ?_ | ((with_reducible first | refine frk0 ?_ ?_ | refine frk1 ?_ ?_ | refine frk2 ?_ ?_ | refine frk3 ?_ ?_ | refine frk4 ?_ ?_ | refine frk5 ?_ ?_ | refine frk6 ?_ ?_ | refine frk7 ?_ ?_ | refine frk8 ?_ ?_ | refine frk9 ?_ ?_) <;> intro h <;> try (exfalso; omega)) | with_reducible refine quiet_and ?_ ?_ | with_reducible refine awp_drawnA mixed (by decide +kernel) ?_ | ((fail_if_success with_reducible refine stp ?_); simp -implicitDefEqProofs only [go_sem, Nat.reduceEqDiff, Nat.reduceAdd, Nat.reduceLT, Nat.reduceMul, Nat.reduceSub, Nat.reduceLeDiff, ↓reduceIte, reduceCtorEq, ↓String.reduceEq, String.reduceNe, Int.reduceToNat, Int.reduceLT, Int.reduceLE, Int.reduceGT, Int.reduceGE, Int.reduceEq, Int.reduceNe, Int.reduceBEq, Int.reduceBNe, Int.reduceAdd, Int.reduceSub, Int.reduceMul, Int.reduceNeg,  *]))
              obtain rfl : A1 = [] := List.eq_nil_of_length_eq_zero (by have q := H0.out; have l := LEN.out; omega)
              refine IH.out A2 B2 (by have q := H0.out; have l := LEN.out; (try simp only [List.length_append, List.length_nil] at l ⊢); omega) (by have q := H0.out; have l := LEN.out; omega) (by have q := H0.out; have l := LEN.out; omega) T2.out (X ++ ([] ++ B1)) Y _ _ _ _ _ (by have q := H0.out; have l := LEN.out; (try simp only [List.length_append, List.length_nil] at l ⊢); omega) (by have q := H0.out; have l := LEN.out; (try simp only [List.length_append, List.length_nil] at l ⊢); omega) (by have q := H0.out; have l := LEN.out; (try simp only [List.length_append, List.length_nil] at l ⊢); omega) (by have q := H0.out; have l := LEN.out; (try simp only [List.length_append, List.length_nil] at l ⊢); omega) (by rw [hupd_at, if_pos rfl]; (try simp only [List.append_assoc, List.nil_append])) ?_
              intro S2 s2 p2
              repeat' (first | exact tf0 ‹_› | exact tf1 ‹_› | exact False.elim ‹_› | (with_reducible refine Al.intro ?_; intro pb hpb; (try simp only [hupd_none'] at hpb); (repeat rcases hpb with ⟨⟨hpx, hpy⟩, hpb⟩)) | with_reducible refine need ?_ | ((with_reducible first | refine frk0 ?_ ?_ | refine frk1 ?_ ?_ | refine frk2 ?_ ?_ | refine frk3 ?_ ?_ | refine frk4 ?_ ?_ | refine frk5 ?_ ?_ | refine frk6 ?_ ?_ | refine frk7 ?_ ?_ | refine frk8 ?_ ?_ | refine frk9 ?_ ?_) <;> intro h <;> try (exfalso; omega)) | with_reducible refine quiet_and ?_ ?_ | with_reducible refine awp_drawnA mixed (by decide +kernel) ?_ | ((fail_if_success with_reducible refine stp ?_); simp -implicitDefEqProofs only [go_sem, Nat.reduceEqDiff, Nat.reduceAdd, Nat.reduceLT, Nat.reduceMul, Nat.reduceSub, Nat.reduceLeDiff, ↓reduceIte, reduceCtorEq, ↓String.reduceEq, String.reduceNe, Int.reduceToNat, Int.reduceLT, Int.reduceLE, Int.reduceGT, Int.reduceGE, Int.reduceEq, Int.reduceNe, Int.reduceBEq, Int.reduceBNe, Int.reduceAdd, Int.reduceSub, Int.reduceMul, Int.reduceNeg,  *]))
              exact ⟨_, Sub.refl _, by have := FIT.out B1 S2 T1.out.2.1 (by simp) s2 p2; simpa only [hupd_hupd, List.append_assoc, List.nil_append] using this⟩
            · have d1 :  ((a + s : Nat) : Int) < (c : Int) := by omega
              have d2 :  ((c : Int) : Int) < (ed : Int) := by omega
              have d3 : ¬ ((a : Int) : Int) < ((a + s : Nat) : Int) := by omega
              have d4 :  ((a + s : Nat) : Int) < (md : Int) := by omega
              have d5 :  (md : Int) < (ed : Int) := by omega
              have d6 : ¬ (ed : Int) < (b : Int) := by omega
              clear q l
              repeat' (first | exact tf0 ‹_› | exact tf1 ‹_› | exact False.elim ‹_› | (with_reducible refine Al.intro ?_; intro pb hpb; (try simp only [hupd_none'] at hpb); (repeat rcases hpb with ⟨⟨hpx, hpy⟩, hpb⟩)) | with_reducible refine need ?_ | ((with_reducible first | refine frk0 ?_ ?_ | refine frk1 ?_ ?_ | refine frk2 ?_ ?_ | refine frk3 ?_ ?_ | refine frk4 ?_ ?_ | refine frk5 ?_ ?_ | refine frk6 ?_ ?_ | refine frk7 ?_ ?_ | refine frk8 ?_ ?_ | refine frk9 ?_ ?_) <;> intro h <;> try (exfalso; omega)) | with_reducible refine quiet_and ?_ ?_ | with_reducible refine awp_drawnA mixed (by decide +kernel) ?_ | ((fail_if_success with_reducible refine stp ?_); simp -implicitDefEqProofs only [go_sem, Nat.reduceEqDiff, Nat.reduceAdd, Nat.reduceLT, Nat.reduceMul, Nat.reduceSub, Nat.reduceLeDiff, ↓reduceIte, reduceCtorEq, ↓String.reduceEq, String.reduceNe, Int.reduceToNat, Int.reduceLT, Int.reduceLE, Int.reduceGT, Int.reduceGE, Int.reduceEq, Int.reduceNe, Int.reduceBEq, Int.reduceBNe, Int.reduceAdd, Int.reduceSub, Int.reduceMul, Int.reduceNeg,  *]))
              refine rotate_spec G cameV (X ++ A1) A2 B1 (B2 ++ Y) (by have q := H0.out; have l := LEN.out; omega) (by have q := H0.out; have l := LEN.out; omega) (by have q := H0.out; have l := LEN.out; (try simp only [List.length_append]); omega) pre post N pb L cap _ _ _ (by have q := H0.out; have l := LEN.out; (try simp only [List.length_append]); omega) (by have q := H0.out; have l := LEN.out; (try simp only [List.length_append]); omega) (by have q := H0.out; have l := LEN.out; (try simp only [List.length_append]); omega) (by have q := H0.out; have l := LEN.out; (try simp only [List.length_append]); omega) _ _ (by rw [HM2.out]; (try simp only [List.append_assoc])) ?_
              repeat' (first | exact tf0 ‹_› | exact tf1 ‹_› | exact False.elim ‹_› | (with_reducible refine Al.intro ?_; intro pb hpb; (try simp only [hupd_none'] at hpb); (repeat rcases hpb with ⟨⟨hpx, hpy⟩, hpb⟩)) | with_reducible refine need ?_ | ((with_reducible first | refine frk0 ?_ ?_ | refine frk1 ?_ ?_ | refine frk2 ?_ ?_ | refine frk3 ?_ ?_ | refine frk4 ?_ ?_ | refine frk5 ?_ ?_ | refine frk6 ?_ ?_ | refine frk7 ?_ ?_ | refine frk8 ?_ ?_ | refine frk9 ?_ ?_) <;> intro h <;> try (exfalso; omega)) | with_reducible refine quiet_and ?_ ?_ | with_reducible refine awp_drawnA mixed (by decide +kernel) ?_ | ((fail_if_success with_reducible refine stp ?_); simp -implicitDefEqProofs only [go_sem, Nat.reduceEqDiff, Nat.reduceAdd, Nat.reduceLT, Nat.reduceMul, Nat.reduceSub, Nat.reduceLeDiff, ↓reduceIte, reduceCtorEq, ↓String.reduceEq, String.reduceNe, Int.reduceToNat, Int.reduceLT, Int.reduceLE, Int.reduceGT, Int.reduceGE, Int.reduceEq, Int.reduceNe, Int.reduceBEq, Int.reduceBNe, Int.reduceAdd, Int.reduceSub, Int.reduceMul, Int.reduceNeg,  *]))
              obtain rfl : A1 = [] := List.eq_nil_of_length_eq_zero (by have q := H0.out; have l := LEN.out; omega)
              obtain rfl : B2 = [] := List.eq_nil_of_length_eq_zero (by have q := H0.out; have l := LEN.out; omega)
              exact ⟨_, Sub.refl _, by have := FIT.out B1 A2 T1.out.2.1 (by simp) T2.out.1 (by simp); simpa only [hupd_hupd, List.append_assoc, List.nil_append] using this⟩
        · have d1 :  ((a + s : Nat) : Int) < (c : Int) := by omega
          have d2 : ¬ ((c : Int) : Int) < (ed : Int) := by omega
          have d3 :  ((a : Int) : Int) < ((a + s : Nat) : Int) := by omega
          have d4 : ¬ ((a + s : Nat) : Int) < (md : Int) := by omega
          have d5 :  (md : Int) < (ed : Int) := by omega
          have d6 :  (ed : Int) < (b : Int) := by omega
          clear q l
          repeat' (first | exact tf0 ‹_› | exact tf1 ‹_› | exact False.elim ‹_› | (with_reducible refine Al.intro ?_; intro pb hpb; (try simp only [hupd_none'] at hpb); (repeat rcases hpb with ⟨⟨hpx, hpy⟩, hpb⟩)) | with_reducible refine need ?_ | ((with_reducible first | refine frk0 ?_ ?_ | refine frk1 ?_ ?_ | refine frk2 ?_ ?_ | refine frk3 ?_ ?_ | refine frk4 ?_ ?_ | refine frk5 ?_ ?_ | refine frk6 ?_ ?_ | refine frk7 ?_ ?_ | refine frk8 ?_ ?_ | refine frk9 ?_ ?_) <;> intro h <;> try (exfalso; omega)) | with_reducible refine quiet_and ?_ ?_ | with_reducible refine awp_drawnA mixed (by decide +kernel) ?_ | ((fail_if_success with_reducible refine stp ?_); simp -implicitDefEqProofs only [go_sem, Nat.reduceEqDiff, Nat.reduceAdd, Nat.reduceLT, Nat.reduceMul, Nat.reduceSub, Nat.reduceLeDiff, ↓reduceIte, reduceCtorEq, ↓String.reduceEq, String.reduceNe, Int.reduceToNat, Int.reduceLT, Int.reduceLE, Int.reduceGT, Int.reduceGE, Int.reduceEq, Int.reduceNe, Int.reduceBEq, Int.reduceBNe, Int.reduceAdd, Int.reduceSub, Int.reduceMul, Int.reduceNeg,  *]))
          obtain rfl : B1 = [] := List.eq_nil_of_length_eq_zero (by have q := H0.out; have l := LEN.out; omega)
          refine IH.out A2 B2 (by have q := H0.out; have l := LEN.out; (try simp only [List.length_append, List.length_nil] at l ⊢); omega) (by have q := H0.out; have l := LEN.out; omega) (by have q := H0.out; have l := LEN.out; omega) T2.out (X ++ (A1 ++ [])) Y _ _ _ _ _ (by have q := H0.out; have l := LEN.out; (try simp only [List.length_append, List.length_nil] at l ⊢); omega) (by have q := H0.out; have l := LEN.out; (try simp only [List.length_append, List.length_nil] at l ⊢); omega) (by have q := H0.out; have l := LEN.out; (try simp only [List.length_append, List.length_nil] at l ⊢); omega) (by have q := H0.out; have l := LEN.out; (try simp only [List.length_append, List.length_nil] at l ⊢); omega) (by rw [HM2.out]; (try simp only [List.append_assoc, List.nil_append])) ?_
          intro S2 s2 p2
          repeat' (first | exact tf0 ‹_› | exact tf1 ‹_› | exact False.elim ‹_› | (with_reducible refine Al.intro ?_; intro pb hpb; (try simp only [hupd_none'] at hpb); (repeat rcases hpb with ⟨⟨hpx, hpy⟩, hpb⟩)) | with_reducible refine need ?_ | ((with_reducible first | refine frk0 ?_ ?_ | refine frk1 ?_ ?_ | refine frk2 ?_ ?_ | refine frk3 ?_ ?_ | refine frk4 ?_ ?_ | refine frk5 ?_ ?_ | refine frk6 ?_ ?_ | refine frk7 ?_ ?_ | refine frk8 ?_ ?_ | refine frk9 ?_ ?_) <;> intro h <;> try (exfalso; omega)) | with_reducible refine quiet_and ?_ ?_ | with_reducible refine awp_drawnA mixed (by decide +kernel) ?_ | ((fail_if_success with_reducible refine stp ?_); simp -implicitDefEqProofs only [go_sem, Nat.reduceEqDiff, Nat.reduceAdd, Nat.reduceLT, Nat.reduceMul, Nat.reduceSub, Nat.reduceLeDiff, ↓reduceIte, reduceCtorEq, ↓String.reduceEq, String.reduceNe, Int.reduceToNat, Int.reduceLT, Int.reduceLE, Int.reduceGT, Int.reduceGE, Int.reduceEq, Int.reduceNe, Int.reduceBEq, Int.reduceBNe, Int.reduceAdd, Int.reduceSub, Int.reduceMul, Int.reduceNeg,  *]))
          exact ⟨_, Sub.refl _, by have := FIT.out A1 S2 T1.out.1 (by simp) s2 p2; simpa only [hupd_hupd, List.append_assoc, List.nil_append] using this⟩
      · by_cases e2 : s < M
        · have d1 : ¬ ((a + s : Nat) : Int) < (c : Int) := by omega
          have d2 :  ((c : Int) : Int) < (ed : Int) := by omega
          have d3 :  ((a : Int) : Int) < ((a + s : Nat) : Int) := by omega
          have d4 :  ((a + s : Nat) : Int) < (md : Int) := by omega
          have d5 : ¬ (md : Int) < (ed : Int) := by omega
          clear q l
          repeat' (first | exact tf0 ‹_› | exact tf1 ‹_› | exact False.elim ‹_› | (with_reducible refine Al.intro ?_; intro pb hpb; (try simp only [hupd_none'] at hpb); (repeat rcases hpb with ⟨⟨hpx, hpy⟩, hpb⟩)) | with_reducible refine need ?_ | ((with_reducible first | refine frk0 ?_ ?_ | refine frk1 ?_ ?_ | refine frk2 ?_ ?_ | refine frk3 ?_ ?_ | refine frk4 ?_ ?_ | refine frk5 ?_ ?_ | refine frk6 ?_ ?_ | refine frk7 ?_ ?_ | refine frk8 ?_ ?_ | refine frk9 ?_ ?_) <;> intro h <;> try (exfalso; omega)) | with_reducible refine quiet_and ?_ ?_ | with_reducible refine awp_drawnA mixed (by decide +kernel) ?_ | ((fail_if_success with_reducible refine stp ?_); simp -implicitDefEqProofs only [go_sem, Nat.reduceEqDiff, Nat.reduceAdd, Nat.reduceLT, Nat.reduceMul, Nat.reduceSub, Nat.reduceLeDiff, ↓reduceIte, reduceCtorEq, ↓String.reduceEq, String.reduceNe, Int.reduceToNat, Int.reduceLT, Int.reduceLE, Int.reduceGT, Int.reduceGE, Int.reduceEq, Int.reduceNe, Int.reduceBEq, Int.reduceBNe, Int.reduceAdd, Int.reduceSub, Int.reduceMul, Int.reduceNeg,  *]))
          obtain rfl : A2 = [] := List.eq_nil_of_length_eq_zero (by have q := H0.out; have l := LEN.out; omega)
          refine IH.out A1 B1 (by have q := H0.out; have l := LEN.out; omega) (by have q := H0.out; have l := LEN.out; omega) (by have q := H0.out; have l := LEN.out; omega) T1.out X ([] ++ (B2 ++ Y)) _ _ _ _ _ (by have q := H0.out; have l := LEN.out; (try simp only [List.length_append]); omega) (by have q := H0.out; have l := LEN.out; omega) (by have q := H0.out; have l := LEN.out; omega) (by have q := H0.out; have l := LEN.out; (try simp only [List.length_append]); omega) (by rw [HM2.out]; (try simp only [List.append_assoc, List.nil_append])) ?_
          intro S1 s1 p1
          have LS := Hid.mk p1.length_eq
          have HP1 := Hid.mk p1
          clear p1
          repeat' (first | exact tf0 ‹_› | exact tf1 ‹_› | exact False.elim ‹_› | (with_reducible refine Al.intro ?_; intro pb hpb; (try simp only [hupd_none'] at hpb); (repeat rcases hpb with ⟨⟨hpx, hpy⟩, hpb⟩)) | with_reducible refine need ?_ | ((with_reducible first | refine frk0 ?_ ?_ | refine frk1 ?_ ?_ | refine frk2 ?_ ?_ | refine frk3 ?_ ?_ | refine frk4 ?_ ?_ | refine frk5 ?_ ?_ | refine frk6 ?_ ?_ | refine frk7 ?_ ?_ | refine frk8 ?_ ?_ | refine frk9 ?_ ?_) <;> intro h <;> try (exfalso; omega)) | with_reducible refine quiet_and ?_ ?_ | with_reducible refine awp_drawnA mixed (by decide +kernel) ?_ | ((fail_if_success with_reducible refine stp ?_); simp -implicitDefEqProofs only [go_sem, Nat.reduceEqDiff, Nat.reduceAdd, Nat.reduceLT, Nat.reduceMul, Nat.reduceSub, Nat.reduceLeDiff, ↓reduceIte, reduceCtorEq, ↓String.reduceEq, String.reduceNe, Int.reduceToNat, Int.reduceLT, Int.reduceLE, Int.reduceGT, Int.reduceGE, Int.reduceEq, Int.reduceNe, Int.reduceBEq, Int.reduceBNe, Int.reduceAdd, Int.reduceSub, Int.reduceMul, Int.reduceNeg,  *]))
          exact ⟨_, Sub.refl _, by have := FIT.out S1 B2 s1 HP1.out T2.out.2.1 (by simp); simpa only [hupd_hupd, List.append_assoc, List.nil_append] using this⟩
        · have d1 : ¬ ((a + s : Nat) : Int) < (c : Int) := by omega
          have d2 : ¬ ((c : Int) : Int) < (ed : Int) := by omega
          have d3 :  ((a : Int) : Int) < ((a + s : Nat) : Int) := by omega
          have d4 : ¬ ((a + s : Nat) : Int) < (md : Int) := by omega
          have d5 : ¬ (md : Int) < (ed : Int) := by omega
          clear q l
          repeat' (first | exact tf0 ‹_› | exact tf1 ‹_› | exact False.elim ‹_› | (with_reducible refine Al.intro ?_; intro pb hpb; (try simp only [hupd_none'] at hpb); (repeat rcases hpb with ⟨⟨hpx, hpy⟩, hpb⟩)) | with_reducible refine need ?_ | ((with_reducible first | refine frk0 ?_ ?_ | refine frk1 ?_ ?_ | refine frk2 ?_ ?_ | refine frk3 ?_ ?_ | refine frk4 ?_ ?_ | refine frk5 ?_ ?_ | refine frk6 ?_ ?_ | refine frk7 ?_ ?_ | refine frk8 ?_ ?_ | refine frk9 ?_ ?_) <;> intro h <;> try (exfalso; omega)) | with_reducible refine quiet_and ?_ ?_ | with_reducible refine awp_drawnA mixed (by decide +kernel) ?_ | ((fail_if_success with_reducible refine stp ?_); simp -implicitDefEqProofs only [go_sem, Nat.reduceEqDiff, Nat.reduceAdd, Nat.reduceLT, Nat.reduceMul, Nat.reduceSub, Nat.reduceLeDiff, ↓reduceIte, reduceCtorEq, ↓String.reduceEq, String.reduceNe, Int.reduceToNat, Int.reduceLT, Int.reduceLE, Int.reduceGT, Int.reduceGE, Int.reduceEq, Int.reduceNe, Int.reduceBEq, Int.reduceBNe, Int.reduceAdd, Int.reduceSub, Int.reduceMul, Int.reduceNeg,  *]))
          obtain rfl : A2 = [] := List.eq_nil_of_length_eq_zero (by have q := H0.out; have l := LEN.out; omega)
          obtain rfl : B1 = [] := List.eq_nil_of_length_eq_zero (by have q := H0.out; have l := LEN.out; omega)
          exact ⟨_, Sub.refl _, by have := FIT.out A1 B2 T1.out.1 (by simp) T2.out.2.1 (by simp); rwa [hupd_same (by rw [HM2.out]; (try simp only [List.append_assoc, List.nil_append]))] at this⟩)
end Go.Proofs.Ytmifapnmlhchlaa
