/- Each job is sent just once. -/
import Derived.Test.YtmifapnmlhchlaaE26
set_option linter.all false
namespace Go.Proofs.Ytmifapnmlhchlaa
open Go Go.Proofs.Ytmifapnmlhchlaa.Ab
open Go.Proofs (Try.prog)
set_option maxRecDepth 100000
set_option maxHeartbeats 4000000 in
theorem edfOnce_spec (G : Nat → AVal) (l : List Jb) (hll : l.length < 9223372036854775808) (len : Int) (h0 : 0 ≤ len) (h1 : len < 65536) : CallWP Try.prog G 5 [.list 4 (l.map encJ), .int .u16 len] (fun _ => none) fun v m' => v = .bool true ∧ m' = fun _ => none := by
  have w1 : IntKind.i64.wrap len = len := wrap_i64 (by omega) (by omega)
  have w2 : IntKind.i64.wrap (len + 1) = len + 1 := wrap_i64 (by omega) (by omega)
  have HC := Hid.mk (jobsF_right l (len + 1) (by omega) (by omega))
  have HLL := Hid.mk hll
  clear h0 h1 hll
  refine callWP_body Try.func5 rfl (N := 142) rfl (rs := [.tmp 4]) rfl en_5 (of_decide_eq_true rfl) ?_
  repeat' (first | exact tf0 ‹_› | exact tf1 ‹_› | exact False.elim ‹_› | (with_reducible refine Al.intro ?_; intro pb hpb; (try simp only [hupd_none'] at hpb); (repeat rcases hpb with ⟨⟨hpx, hpy⟩, hpb⟩)) | with_reducible refine need ?_ | ((with_reducible first | refine frk0 ?_ ?_ | refine frk1 ?_ ?_ | refine frk2 ?_ ?_ | refine frk3 ?_ ?_ | refine frk4 ?_ ?_ | refine frk5 ?_ ?_ | refine frk6 ?_ ?_ | refine frk7 ?_ ?_ | refine frk8 ?_ ?_ | refine frk9 ?_ ?_) <;> intro h <;> try (exfalso; omega)) | with_reducible refine quiet_and ?_ ?_ | with_reducible refine awp_drawnA mixed (by decide +kernel) ?_ | ((fail_if_success with_reducible refine stp ?_); simp -implicitDefEqProofs only [go_sem, Nat.reduceEqDiff, Nat.reduceAdd, Nat.reduceLT, Nat.reduceMul, Nat.reduceSub, Nat.reduceLeDiff, ↓reduceIte, reduceCtorEq, ↓String.reduceEq, String.reduceNe, Int.reduceToNat, Int.reduceLT, Int.reduceLE, Int.reduceGT, Int.reduceGE, Int.reduceEq, Int.reduceNe, Int.reduceBEq, Int.reduceBNe, Int.reduceAdd, Int.reduceSub, Int.reduceMul, Int.reduceNeg,  *]))
  refine jobs_spec G l HLL.out _ _ (fun vj m1 hsj hsub1 _ => ?_)
  repeat' (first | exact tf0 ‹_› | exact tf1 ‹_› | exact False.elim ‹_› | (with_reducible refine Al.intro ?_; intro pb hpb; (try simp only [hupd_none'] at hpb); (repeat rcases hpb with ⟨⟨hpx, hpy⟩, hpb⟩)) | with_reducible refine need ?_ | ((with_reducible first | refine frk0 ?_ ?_ | refine frk1 ?_ ?_ | refine frk2 ?_ ?_ | refine frk3 ?_ ?_ | refine frk4 ?_ ?_ | refine frk5 ?_ ?_ | refine frk6 ?_ ?_ | refine frk7 ?_ ?_ | refine frk8 ?_ ?_ | refine frk9 ?_ ?_) <;> intro h <;> try (exfalso; omega)) | with_reducible refine quiet_and ?_ ?_ | with_reducible refine awp_drawnA mixed (by decide +kernel) ?_ | ((fail_if_success with_reducible refine stp ?_); simp -implicitDefEqProofs only [go_sem, Nat.reduceEqDiff, Nat.reduceAdd, Nat.reduceLT, Nat.reduceMul, Nat.reduceSub, Nat.reduceLeDiff, ↓reduceIte, reduceCtorEq, ↓String.reduceEq, String.reduceNe, Int.reduceToNat, Int.reduceLT, Int.reduceLE, Int.reduceGT, Int.reduceGE, Int.reduceEq, Int.reduceNe, Int.reduceBEq, Int.reduceBNe, Int.reduceAdd, Int.reduceSub, Int.reduceMul, Int.reduceNeg,  *]))
  refine run_spec G (jobsF l) (len + 1) vj m1 (.inl hsj) _ (fun h => absurd HC.out h) (fun hc S vo m2 hse hso hsub2 _ => ?_)
  obtain ⟨J, hJ⟩ : ∃ J, J = jobsF l := ⟨_, rfl⟩
  rw [← hJ] at HC hsj hse
  have hjl : J.length ≤ 40 := by rw [hJ]; unfold jobsF; rw [List.length_map, List.length_take]; omega
  have hlen : S.length = J.length := by have := hse.perm.length_eq; rw [List.length_map, idxJ_len] at this; exact this
  have hsj2 := hsj.into hsub2
  obtain ⟨L, hL⟩ : ∃ L, L = J.length := ⟨_, rfl⟩
  have HR := Hid.mk (And.intro hse (And.intro hso (And.intro hsj2 (And.intro hlen (And.intro hL hjl)))))
  have hv1 : (vj = .nils ∧ L = 0) ∨ ∃ b o cap, vj = .slice b o L cap := by
    rcases hsj.slv with ⟨a, b⟩ | h
    · exact .inl ⟨a, by rw [hL, b]; rfl⟩
    · rw [hL]; exact .inr h
  have hv2 : (vo = .nils ∧ L = 0) ∨ ∃ b o cap, vo = .slice b o L cap := by
    rcases hso.slv with ⟨a, b⟩ | h
    · exact .inl ⟨a, by rw [hL, ← hlen, b]; rfl⟩
    · rw [hL, ← hlen]; exact .inr h
  have hL40 : L ≤ 40 := by omega
  clear hc hse hso hsj hsj2 hsub1 hsub2 hjl hlen hL hJ
  by_cases hl0 : L = 0
  · subst hl0
    clear hL40
    rcases hv1 with ⟨rfl, -⟩ | ⟨b1, o1, c1, rfl⟩ <;> rcases hv2 with ⟨rfl, -⟩ | ⟨b2, o2, c2, rfl⟩
    all_goals (
      repeat' (first | exact tf0 ‹_› | exact tf1 ‹_› | exact False.elim ‹_› | (with_reducible refine Al.intro ?_; intro pb hpb; (try simp only [hupd_none'] at hpb); (repeat rcases hpb with ⟨⟨hpx, hpy⟩, hpb⟩)) | with_reducible refine need ?_ | ((with_reducible first | refine frk0 ?_ ?_ | refine frk1 ?_ ?_ | refine frk2 ?_ ?_ | refine frk3 ?_ ?_ | refine frk4 ?_ ?_ | refine frk5 ?_ ?_ | refine frk6 ?_ ?_ | refine frk7 ?_ ?_ | refine frk8 ?_ ?_ | refine frk9 ?_ ?_) <;> intro h <;> try (exfalso; omega)) | with_reducible refine quiet_and ?_ ?_ | with_reducible refine awp_drawnA mixed (by decide +kernel) ?_ | ((fail_if_success with_reducible refine stp ?_); simp -implicitDefEqProofs only [go_sem, Nat.reduceEqDiff, Nat.reduceAdd, Nat.reduceLT, Nat.reduceMul, Nat.reduceSub, Nat.reduceLeDiff, ↓reduceIte, reduceCtorEq, ↓String.reduceEq, String.reduceNe, Int.reduceToNat, Int.reduceLT, Int.reduceLE, Int.reduceGT, Int.reduceGE, Int.reduceEq, Int.reduceNe, Int.reduceBEq, Int.reduceBNe, Int.reduceAdd, Int.reduceSub, Int.reduceMul, Int.reduceNeg,  *]))
      refine awp_loopP 0 (fun ts m' => True) (fun k ts m' => ts 9 = .int .i64 0 ∧ Emp (ts 5)) 0 ⟨ttt, by first | exact .inl (ttt) | exact .inr (.inl ⟨_, _, _, ttt⟩) | exact .inr (.inr (ttt))⟩ ?_ ?_
      · rintro k ts m' ⟨t9, e5⟩
        rcases e5 with t5 | ⟨b3, o3, c3, t5⟩ | t5
        all_goals (
          repeat' (first | exact tf0 ‹_› | exact tf1 ‹_› | exact False.elim ‹_› | (with_reducible refine Al.intro ?_; intro pb hpb; (try simp only [hupd_none'] at hpb); (repeat rcases hpb with ⟨⟨hpx, hpy⟩, hpb⟩)) | with_reducible refine need ?_ | ((with_reducible first | refine frk0 ?_ ?_ | refine frk1 ?_ ?_ | refine frk2 ?_ ?_ | refine frk3 ?_ ?_ | refine frk4 ?_ ?_ | refine frk5 ?_ ?_ | refine frk6 ?_ ?_ | refine frk7 ?_ ?_ | refine frk8 ?_ ?_ | refine frk9 ?_ ?_) <;> intro h <;> try (exfalso; omega)) | with_reducible refine quiet_and ?_ ?_ | with_reducible refine awp_drawnA mixed (by decide +kernel) ?_ | ((fail_if_success with_reducible refine stp ?_); simp -implicitDefEqProofs only [go_sem, Nat.reduceEqDiff, Nat.reduceAdd, Nat.reduceLT, Nat.reduceMul, Nat.reduceSub, Nat.reduceLeDiff, ↓reduceIte, reduceCtorEq, ↓String.reduceEq, String.reduceNe, Int.reduceToNat, Int.reduceLT, Int.reduceLE, Int.reduceGT, Int.reduceGE, Int.reduceEq, Int.reduceNe, Int.reduceBEq, Int.reduceBNe, Int.reduceAdd, Int.reduceSub, Int.reduceMul, Int.reduceNeg,  *]))
          exact Again.intro trivial)
      · rintro ts m' -
        repeat' (first | exact tf0 ‹_› | exact tf1 ‹_› | exact False.elim ‹_› | (with_reducible refine Al.intro ?_; intro pb hpb; (try simp only [hupd_none'] at hpb); (repeat rcases hpb with ⟨⟨hpx, hpy⟩, hpb⟩)) | with_reducible refine need ?_ | ((with_reducible first | refine frk0 ?_ ?_ | refine frk1 ?_ ?_ | refine frk2 ?_ ?_ | refine frk3 ?_ ?_ | refine frk4 ?_ ?_ | refine frk5 ?_ ?_ | refine frk6 ?_ ?_ | refine frk7 ?_ ?_ | refine frk8 ?_ ?_ | refine frk9 ?_ ?_) <;> intro h <;> try (exfalso; omega)) | with_reducible refine quiet_and ?_ ?_ | with_reducible refine awp_drawnA mixed (by decide +kernel) ?_ | ((fail_if_success with_reducible refine stp ?_); simp -implicitDefEqProofs only [go_sem, Nat.reduceEqDiff, Nat.reduceAdd, Nat.reduceLT, Nat.reduceMul, Nat.reduceSub, Nat.reduceLeDiff, ↓reduceIte, reduceCtorEq, ↓String.reduceEq, String.reduceNe, Int.reduceToNat, Int.reduceLT, Int.reduceLE, Int.reduceGT, Int.reduceGE, Int.reduceEq, Int.reduceNe, Int.reduceBEq, Int.reduceBNe, Int.reduceAdd, Int.reduceSub, Int.reduceMul, Int.reduceNeg,  *]))
        refine CallWP.to (live_spec G _) ?_
        repeat' (first | exact tf0 ‹_› | exact tf1 ‹_› | exact False.elim ‹_› | (with_reducible refine Al.intro ?_; intro pb hpb; (try simp only [hupd_none'] at hpb); (repeat rcases hpb with ⟨⟨hpx, hpy⟩, hpb⟩)) | with_reducible refine need ?_ | ((with_reducible first | refine frk0 ?_ ?_ | refine frk1 ?_ ?_ | refine frk2 ?_ ?_ | refine frk3 ?_ ?_ | refine frk4 ?_ ?_ | refine frk5 ?_ ?_ | refine frk6 ?_ ?_ | refine frk7 ?_ ?_ | refine frk8 ?_ ?_ | refine frk9 ?_ ?_) <;> intro h <;> try (exfalso; omega)) | with_reducible refine quiet_and ?_ ?_ | with_reducible refine awp_drawnA mixed (by decide +kernel) ?_ | ((fail_if_success with_reducible refine stp ?_); simp -implicitDefEqProofs only [go_sem, Nat.reduceEqDiff, Nat.reduceAdd, Nat.reduceLT, Nat.reduceMul, Nat.reduceSub, Nat.reduceLeDiff, ↓reduceIte, reduceCtorEq, ↓String.reduceEq, String.reduceNe, Int.reduceToNat, Int.reduceLT, Int.reduceLE, Int.reduceGT, Int.reduceGE, Int.reduceEq, Int.reduceNe, Int.reduceBEq, Int.reduceBNe, Int.reduceAdd, Int.reduceSub, Int.reduceMul, Int.reduceNeg,  *]))
        exact ⟨fun _ => none, (by intro x y h; cases h), rfl, rfl⟩)
  · obtain ⟨bj, oj, cj, rfl⟩ := hv1.resolve_left fun h => hl0 h.2
    obtain ⟨bs, os, cs, rfl⟩ := hv2.resolve_left fun h => hl0 h.2
    clear hv1 hv2
    obtain ⟨prj, poj, Nj, rfl, -, rowj, -, -⟩ := slm_slice HR.out.2.2.1
    obtain ⟨prs, pos, Ns, rfl, -, rows, -, -⟩ := slm_slice HR.out.2.1
    repeat' (first | exact tf0 ‹_› | exact tf1 ‹_› | exact False.elim ‹_› | (with_reducible refine Al.intro ?_; intro pb hpb; (try simp only [hupd_none'] at hpb); (repeat rcases hpb with ⟨⟨hpx, hpy⟩, hpb⟩)) | with_reducible refine need ?_ | ((with_reducible first | refine frk0 ?_ ?_ | refine frk1 ?_ ?_ | refine frk2 ?_ ?_ | refine frk3 ?_ ?_ | refine frk4 ?_ ?_ | refine frk5 ?_ ?_ | refine frk6 ?_ ?_ | refine frk7 ?_ ?_ | refine frk8 ?_ ?_ | refine frk9 ?_ ?_) <;> intro h <;> try (exfalso; omega)) | with_reducible refine quiet_and ?_ ?_ | with_reducible refine awp_drawnA mixed (by decide +kernel) ?_ | ((fail_if_success with_reducible refine stp ?_); simp -implicitDefEqProofs only [go_sem, Nat.reduceEqDiff, Nat.reduceAdd, Nat.reduceLT, Nat.reduceMul, Nat.reduceSub, Nat.reduceLeDiff, ↓reduceIte, reduceCtorEq, ↓String.reduceEq, String.reduceNe, Int.reduceToNat, Int.reduceLT, Int.reduceLE, Int.reduceGT, Int.reduceGE, Int.reduceEq, Int.reduceNe, Int.reduceBEq, Int.reduceBNe, Int.reduceAdd, Int.reduceSub, Int.reduceMul, Int.reduceNeg,  *]))
    have HP := Hid.mk hpb
    obtain ⟨pd, epd⟩ : ∃ pd, pd = pb := ⟨_, rfl⟩
    rw [rowT_rep]
    have nl := neL rowj pb hpb
    have nr := neR rowj pb hpb
    have nl2 := neL rows pb hpb
    have nr2 := neR rows pb hpb
    clear hpb
    subst epd
    refine awp_loopP 0 (fun ts m' => True)
      (fun k ts m' => ∃ (D : List Bool) (i : Nat) (last : Int), Hid (k = L - i ∧ i ≤ L ∧ D.length = L ∧ Seen S i D ∧ last = lastOf 0 S i) ∧ ts 0 = .slice bj prj.length L cj ∧ ts 5 = .slice bs prs.length L cs ∧ ts 7 = .slice pd 0 L L ∧ ts 8 = .int .i64 last ∧ ts 9 = .int .i64 (i : Nat) ∧ m' = hupd m2 pd (rowT D L)) L
      ⟨List.replicate L false, 0, 0, .mk ⟨rfl, Nat.zero_le _, List.length_replicate, Seen.start S L, rfl⟩, ttt, ttt, ttt, ttt, ttt, rfl⟩ ?_ ?_
    · rintro k ts m3 ⟨D, i, last, H, t0, t5, t7, t8, t9, hm3⟩
      subst m3
      by_cases hi : i < L
      · have lt : (i : Int) < (L : Int) := by omega
        have hiS : i < S.length := by have := HR.out; omega
        obtain ⟨x, hx⟩ : ∃ x, S.getD i default = x := ⟨_, rfl⟩
        have hnth := HR.out.1.nth i hiS x hx
        rw [← H.out.2.2.2.2] at hnth
        obtain ⟨n1, n2, n3, n4⟩ := hnth
        have HN := Hid.mk n3
        clear n3 n4
        have hxm : x.1 ∈ idxJ J := HR.out.1.perm.mem_iff.1 (List.mem_map_of_mem (by rw [← hx]; exact getD_mem S i hiS))
        have hxr := (rightJ_iff _).1 (checkF_right HC.out _ (idxJ_mem hxm))
        have hxb := HR.out.1.bound 1125899906842624 (fun u hu => checkF_right HC.out _ (idxJ_mem hu)) (Int.le_refl _) (by omega) (Int.le_refl _) x (by rw [← hx]; exact getD_mem S i hiS)
        obtain ⟨c, hc, hxe⟩ := mem_idx.1 hxm
        obtain ⟨⟨y, at_⟩, t⟩ := x
        injection hxe with he1 he2
        subst he2
        have hcD : c < D.length := by have := H.out; have := HR.out; omega
        have g0 := st_job S prs pos i hiS _ hx
        obtain ⟨g1, g2⟩ := st_cells S prs pos i hiS _ hx
        have l1 := st_len S prs pos i hiS
        have g3 := cell_of (enc := encJc) (sz := 4) encJc_len J prj poj c hc y he1.symm 1 (by decide)
        have g4 := cell_of (enc := encJc) (sz := 4) encJc_len J prj poj c hc y he1.symm 3 (by decide)
        rw [show (encJc y).getD 1 .undef = .int .i64 y.2.1 from rfl] at g3
        rw [show (encJc y).getD 3 .undef = .int .i64 y.2.2.2 from rfl] at g4
        have l2 := j_len J prj poj c hc
        have hsn := Seen.next HR.out.1 H.out.2.2.2.1 hiS hx rfl hcD
        have g5 := rowT_at D c hcD false hsn
        have l3 := rowT_len D
        have l4 : c < (D.flatMap encB).length := by omega
        have s1 := rowT_set D c true hcD
        have lc : ¬ (L : Int) ≤ (c : Int) := by have := HR.out; omega
        have lc0 : ¬ (c : Int) < 0 := by omega
        have lc1 : (c : Int) < (L : Int) := by omega
        have n1' : ¬ t < last := by simp only at n1; omega
        have n2' : ¬ t < y.2.1 := by have e : kT ((y, (c : Int)), t).1 = y.2.1 := rfl; rw [e] at n2; simp only at n2; omega
        have w3 : IntKind.i64.wrap (t + y.2.2.2 - t) = y.2.2.2 := by rw [show t + y.2.2.2 - t = y.2.2.2 by omega, wrap_i64 (by simp only at hxr; omega) (by simp only at hxr; omega)]
        have w4 : IntKind.i64.wrap ((i : Int) + 1) = ((i + 1 : Nat) : Int) := by rw [wrap_i64 (by omega) (by omega)]; omega
        have hst := H.out.2.2.2.1.step hiS hx rfl hcD
        have HX := Hid.mk (And.intro hx hst)
        clear hxm hxr hxb hc he1 n1 n2 hsn l3 hx hst hcD hiS
        repeat' (first | exact tf0 ‹_› | exact tf1 ‹_› | exact False.elim ‹_› | (with_reducible refine Al.intro ?_; intro pb hpb; (try simp only [hupd_none'] at hpb); (repeat rcases hpb with ⟨⟨hpx, hpy⟩, hpb⟩)) | with_reducible refine need ?_ | ((with_reducible first | refine frk0 ?_ ?_ | refine frk1 ?_ ?_ | refine frk2 ?_ ?_ | refine frk3 ?_ ?_ | refine frk4 ?_ ?_ | refine frk5 ?_ ?_ | refine frk6 ?_ ?_ | refine frk7 ?_ ?_ | refine frk8 ?_ ?_ | refine frk9 ?_ ?_) <;> intro h <;> try (exfalso; omega)) | with_reducible refine quiet_and ?_ ?_ | with_reducible refine awp_drawnA mixed (by decide +kernel) ?_ | ((fail_if_success with_reducible refine stp ?_); simp -implicitDefEqProofs only [go_sem, Nat.reduceEqDiff, Nat.reduceAdd, Nat.reduceLT, Nat.reduceMul, Nat.reduceSub, Nat.reduceLeDiff, ↓reduceIte, reduceCtorEq, ↓String.reduceEq, String.reduceNe, Int.reduceToNat, Int.reduceLT, Int.reduceLE, Int.reduceGT, Int.reduceGE, Int.reduceEq, Int.reduceNe, Int.reduceBEq, Int.reduceBNe, Int.reduceAdd, Int.reduceSub, Int.reduceMul, Int.reduceNeg,  rowT, *]))
        refine awp_loopP 2 (fun ts m' => ts 0 = .slice bj prj.length L cj ∧ ts 5 = .slice bs prs.length L cs ∧ ts 7 = .slice pd 0 L L ∧ ts 9 = .int .i64 (i : Nat) ∧ ts 10 = .int .i64 (c : Nat) ∧ m' = hupd m2 pd (rowT D L))
          (fun k ts m' => ∃ j : Nat, Hid (k = L - j ∧ j ≤ L) ∧ ts 0 = .slice bj prj.length L cj ∧ ts 5 = .slice bs prs.length L cs ∧ ts 7 = .slice pd 0 L L ∧ ts 8 = .int .i64 last ∧ ts 9 = .int .i64 (i : Nat) ∧ ts 10 = .int .i64 (c : Nat) ∧ ts 11 = .int .i64 (j : Nat) ∧ m' = hupd m2 pd (rowT D L)) L
          ⟨0, .mk ⟨rfl, Nat.zero_le _⟩, (by first | (simp only [upd, put, Nat.reduceEqDiff, ↓reduceIte, t0]; done) | (simp [upd, put, t0]; done) | rfl | (simp [upd, put, t0]; rfl)), (by first | (simp only [upd, put, Nat.reduceEqDiff, ↓reduceIte, t5]; done) | (simp [upd, put, t5]; done) | rfl | (simp [upd, put, t5]; rfl)), (by first | (simp only [upd, put, Nat.reduceEqDiff, ↓reduceIte, t7]; done) | (simp [upd, put, t7]; done) | rfl | (simp [upd, put, t7]; rfl)), (by first | (simp only [upd, put, Nat.reduceEqDiff, ↓reduceIte, t8]; done) | (simp [upd, put, t8]; done) | rfl | (simp [upd, put, t8]; rfl)), (by first | (simp only [upd, put, Nat.reduceEqDiff, ↓reduceIte, t9]; done) | (simp [upd, put, t9]; done) | rfl | (simp [upd, put, t9]; rfl)), ttt, ttt, by first | rfl | (simp only [rowT])⟩ ?_ ?_
        · clear t0 t5 t7 t8 t9 g0 g2 g3 g4 g5 l2 l4 s1 lc lc0 lc1 n1' n2' w3 w4
          rintro k ts m3 ⟨j, H2, t0, t5, t7, t8, t9, t10, t11, hm3⟩
          subst m3
          by_cases hj : j < L
          · have lj : (j : Int) < (L : Int) := by omega
            have hjD : j < D.length := by have := H.out; omega
            have hjJ : j < J.length := by have := HR.out; omega
            obtain ⟨z, hz⟩ : ∃ z, J.getD j default = z := ⟨_, rfl⟩
            have g3 := cell_of (enc := encJc) (sz := 4) encJc_len J prj poj j hjJ z hz 1 (by decide)
            rw [show (encJc z).getD 1 .undef = .int .i64 z.2.1 from rfl] at g3
            have l2 := j_len J prj poj j hjJ
            have l3 := rowT_len D
            have l4 : j < (D.flatMap encB).length := by omega
            have w5 : IntKind.i64.wrap ((j : Int) + 1) = ((j + 1 : Nat) : Int) := by rw [wrap_i64 (by omega) (by omega)]; omega
            cases hq : D.getD j false with
            | true =>
              have g5 := rowT_at D j hjD true hq
              clear hz hq l3 hjD hjJ
              repeat' (first | exact tf0 ‹_› | exact tf1 ‹_› | exact False.elim ‹_› | (with_reducible refine Al.intro ?_; intro pb hpb; (try simp only [hupd_none'] at hpb); (repeat rcases hpb with ⟨⟨hpx, hpy⟩, hpb⟩)) | with_reducible refine need ?_ | ((with_reducible first | refine frk0 ?_ ?_ | refine frk1 ?_ ?_ | refine frk2 ?_ ?_ | refine frk3 ?_ ?_ | refine frk4 ?_ ?_ | refine frk5 ?_ ?_ | refine frk6 ?_ ?_ | refine frk7 ?_ ?_ | refine frk8 ?_ ?_ | refine frk9 ?_ ?_) <;> intro h <;> try (exfalso; omega)) | with_reducible refine quiet_and ?_ ?_ | with_reducible refine awp_drawnA mixed (by decide +kernel) ?_ | ((fail_if_success with_reducible refine stp ?_); simp -implicitDefEqProofs only [go_sem, Nat.reduceEqDiff, Nat.reduceAdd, Nat.reduceLT, Nat.reduceMul, Nat.reduceSub, Nat.reduceLeDiff, ↓reduceIte, reduceCtorEq, ↓String.reduceEq, String.reduceNe, Int.reduceToNat, Int.reduceLT, Int.reduceLE, Int.reduceGT, Int.reduceGE, Int.reduceEq, Int.reduceNe, Int.reduceBEq, Int.reduceBNe, Int.reduceAdd, Int.reduceSub, Int.reduceMul, Int.reduceNeg,  rowT, *]))
              exact Again.intro ⟨L - (j + 1), by have := H2.out; omega, _, Sub.refl _, j + 1, .mk ⟨rfl, by omega⟩, (by first | (simp only [upd, put, Nat.reduceEqDiff, ↓reduceIte, t0]; done) | (simp [upd, put, t0]; done) | rfl | (simp [upd, put, t0]; rfl)), (by first | (simp only [upd, put, Nat.reduceEqDiff, ↓reduceIte, t5]; done) | (simp [upd, put, t5]; done) | rfl | (simp [upd, put, t5]; rfl)), (by first | (simp only [upd, put, Nat.reduceEqDiff, ↓reduceIte, t7]; done) | (simp [upd, put, t7]; done) | rfl | (simp [upd, put, t7]; rfl)), (by first | (simp only [upd, put, Nat.reduceEqDiff, ↓reduceIte, t8]; done) | (simp [upd, put, t8]; done) | rfl | (simp [upd, put, t8]; rfl)), (by first | (simp only [upd, put, Nat.reduceEqDiff, ↓reduceIte, t9]; done) | (simp [upd, put, t9]; done) | rfl | (simp [upd, put, t9]; rfl)), (by first | (simp only [upd, put, Nat.reduceEqDiff, ↓reduceIte, t10]; done) | (simp [upd, put, t10]; done) | rfl | (simp [upd, put, t10]; rfl)), ttt, by first | rfl | (simp only [rowT])⟩
            | false =>
              have g5 := rowT_at D j hjD false hq
              by_cases ht : last < t
              · have hle : ¬ z.2.1 < t := by
                  obtain ⟨u, hu⟩ := Seen.rest HR.out.1 H.out.2.2.2.1 hjJ hjD hq hz
                  have h1 : t ≤ z.2.1 := HN.out ht _ hu
                  omega
                clear hz hq l3 hjD hjJ
                repeat' (first | exact tf0 ‹_› | exact tf1 ‹_› | exact False.elim ‹_› | (with_reducible refine Al.intro ?_; intro pb hpb; (try simp only [hupd_none'] at hpb); (repeat rcases hpb with ⟨⟨hpx, hpy⟩, hpb⟩)) | with_reducible refine need ?_ | ((with_reducible first | refine frk0 ?_ ?_ | refine frk1 ?_ ?_ | refine frk2 ?_ ?_ | refine frk3 ?_ ?_ | refine frk4 ?_ ?_ | refine frk5 ?_ ?_ | refine frk6 ?_ ?_ | refine frk7 ?_ ?_ | refine frk8 ?_ ?_ | refine frk9 ?_ ?_) <;> intro h <;> try (exfalso; omega)) | with_reducible refine quiet_and ?_ ?_ | with_reducible refine awp_drawnA mixed (by decide +kernel) ?_ | ((fail_if_success with_reducible refine stp ?_); simp -implicitDefEqProofs only [go_sem, Nat.reduceEqDiff, Nat.reduceAdd, Nat.reduceLT, Nat.reduceMul, Nat.reduceSub, Nat.reduceLeDiff, ↓reduceIte, reduceCtorEq, ↓String.reduceEq, String.reduceNe, Int.reduceToNat, Int.reduceLT, Int.reduceLE, Int.reduceGT, Int.reduceGE, Int.reduceEq, Int.reduceNe, Int.reduceBEq, Int.reduceBNe, Int.reduceAdd, Int.reduceSub, Int.reduceMul, Int.reduceNeg,  rowT, *]))
                exact Again.intro ⟨L - (j + 1), by have := H2.out; omega, _, Sub.refl _, j + 1, .mk ⟨rfl, by omega⟩, (by first | (simp only [upd, put, Nat.reduceEqDiff, ↓reduceIte, t0]; done) | (simp [upd, put, t0]; done) | rfl | (simp [upd, put, t0]; rfl)), (by first | (simp only [upd, put, Nat.reduceEqDiff, ↓reduceIte, t5]; done) | (simp [upd, put, t5]; done) | rfl | (simp [upd, put, t5]; rfl)), (by first | (simp only [upd, put, Nat.reduceEqDiff, ↓reduceIte, t7]; done) | (simp [upd, put, t7]; done) | rfl | (simp [upd, put, t7]; rfl)), (by first | (simp only [upd, put, Nat.reduceEqDiff, ↓reduceIte, t8]; done) | (simp [upd, put, t8]; done) | rfl | (simp [upd, put, t8]; rfl)), (by first | (simp only [upd, put, Nat.reduceEqDiff, ↓reduceIte, t9]; done) | (simp [upd, put, t9]; done) | rfl | (simp [upd, put, t9]; rfl)), (by first | (simp only [upd, put, Nat.reduceEqDiff, ↓reduceIte, t10]; done) | (simp [upd, put, t10]; done) | rfl | (simp [upd, put, t10]; rfl)), ttt, by first | rfl | (simp only [rowT])⟩
              · clear hz hq l3 hjD hjJ
                repeat' (first | exact tf0 ‹_› | exact tf1 ‹_› | exact False.elim ‹_› | (with_reducible refine Al.intro ?_; intro pb hpb; (try simp only [hupd_none'] at hpb); (repeat rcases hpb with ⟨⟨hpx, hpy⟩, hpb⟩)) | with_reducible refine need ?_ | ((with_reducible first | refine frk0 ?_ ?_ | refine frk1 ?_ ?_ | refine frk2 ?_ ?_ | refine frk3 ?_ ?_ | refine frk4 ?_ ?_ | refine frk5 ?_ ?_ | refine frk6 ?_ ?_ | refine frk7 ?_ ?_ | refine frk8 ?_ ?_ | refine frk9 ?_ ?_) <;> intro h <;> try (exfalso; omega)) | with_reducible refine quiet_and ?_ ?_ | with_reducible refine awp_drawnA mixed (by decide +kernel) ?_ | ((fail_if_success with_reducible refine stp ?_); simp -implicitDefEqProofs only [go_sem, Nat.reduceEqDiff, Nat.reduceAdd, Nat.reduceLT, Nat.reduceMul, Nat.reduceSub, Nat.reduceLeDiff, ↓reduceIte, reduceCtorEq, ↓String.reduceEq, String.reduceNe, Int.reduceToNat, Int.reduceLT, Int.reduceLE, Int.reduceGT, Int.reduceGE, Int.reduceEq, Int.reduceNe, Int.reduceBEq, Int.reduceBNe, Int.reduceAdd, Int.reduceSub, Int.reduceMul, Int.reduceNeg,  rowT, *]))
                exact Again.intro ⟨L - (j + 1), by have := H2.out; omega, _, Sub.refl _, j + 1, .mk ⟨rfl, by omega⟩, (by first | (simp only [upd, put, Nat.reduceEqDiff, ↓reduceIte, t0]; done) | (simp [upd, put, t0]; done) | rfl | (simp [upd, put, t0]; rfl)), (by first | (simp only [upd, put, Nat.reduceEqDiff, ↓reduceIte, t5]; done) | (simp [upd, put, t5]; done) | rfl | (simp [upd, put, t5]; rfl)), (by first | (simp only [upd, put, Nat.reduceEqDiff, ↓reduceIte, t7]; done) | (simp [upd, put, t7]; done) | rfl | (simp [upd, put, t7]; rfl)), (by first | (simp only [upd, put, Nat.reduceEqDiff, ↓reduceIte, t8]; done) | (simp [upd, put, t8]; done) | rfl | (simp [upd, put, t8]; rfl)), (by first | (simp only [upd, put, Nat.reduceEqDiff, ↓reduceIte, t9]; done) | (simp [upd, put, t9]; done) | rfl | (simp [upd, put, t9]; rfl)), (by first | (simp only [upd, put, Nat.reduceEqDiff, ↓reduceIte, t10]; done) | (simp [upd, put, t10]; done) | rfl | (simp [upd, put, t10]; rfl)), ttt, by first | rfl | (simp only [rowT])⟩
          · have lj : ¬ (j : Int) < (L : Int) := by omega
            repeat' (first | exact tf0 ‹_› | exact tf1 ‹_› | exact False.elim ‹_› | (with_reducible refine Al.intro ?_; intro pb hpb; (try simp only [hupd_none'] at hpb); (repeat rcases hpb with ⟨⟨hpx, hpy⟩, hpb⟩)) | with_reducible refine need ?_ | ((with_reducible first | refine frk0 ?_ ?_ | refine frk1 ?_ ?_ | refine frk2 ?_ ?_ | refine frk3 ?_ ?_ | refine frk4 ?_ ?_ | refine frk5 ?_ ?_ | refine frk6 ?_ ?_ | refine frk7 ?_ ?_ | refine frk8 ?_ ?_ | refine frk9 ?_ ?_) <;> intro h <;> try (exfalso; omega)) | with_reducible refine quiet_and ?_ ?_ | with_reducible refine awp_drawnA mixed (by decide +kernel) ?_ | ((fail_if_success with_reducible refine stp ?_); simp -implicitDefEqProofs only [go_sem, Nat.reduceEqDiff, Nat.reduceAdd, Nat.reduceLT, Nat.reduceMul, Nat.reduceSub, Nat.reduceLeDiff, ↓reduceIte, reduceCtorEq, ↓String.reduceEq, String.reduceNe, Int.reduceToNat, Int.reduceLT, Int.reduceLE, Int.reduceGT, Int.reduceGE, Int.reduceEq, Int.reduceNe, Int.reduceBEq, Int.reduceBNe, Int.reduceAdd, Int.reduceSub, Int.reduceMul, Int.reduceNeg,  *]))
            exact Again.intro ⟨(by first | (simp only [upd, put, Nat.reduceEqDiff, ↓reduceIte, t0]; done) | (simp [upd, put, t0]; done) | rfl | (simp [upd, put, t0]; rfl)), (by first | (simp only [upd, put, Nat.reduceEqDiff, ↓reduceIte, t5]; done) | (simp [upd, put, t5]; done) | rfl | (simp [upd, put, t5]; rfl)), (by first | (simp only [upd, put, Nat.reduceEqDiff, ↓reduceIte, t7]; done) | (simp [upd, put, t7]; done) | rfl | (simp [upd, put, t7]; rfl)), (by first | (simp only [upd, put, Nat.reduceEqDiff, ↓reduceIte, t9]; done) | (simp [upd, put, t9]; done) | rfl | (simp [upd, put, t9]; rfl)), (by first | (simp only [upd, put, Nat.reduceEqDiff, ↓reduceIte, t10]; done) | (simp [upd, put, t10]; done) | rfl | (simp [upd, put, t10]; rfl)), rfl⟩
        · clear t0 t5 t7 t8 t9
          rintro ts m3 ⟨t0, t5, t7, t9, t10, hm3⟩
          subst m3
          repeat' (first | exact tf0 ‹_› | exact tf1 ‹_› | exact False.elim ‹_› | (with_reducible refine Al.intro ?_; intro pb hpb; (try simp only [hupd_none'] at hpb); (repeat rcases hpb with ⟨⟨hpx, hpy⟩, hpb⟩)) | with_reducible refine need ?_ | ((with_reducible first | refine frk0 ?_ ?_ | refine frk1 ?_ ?_ | refine frk2 ?_ ?_ | refine frk3 ?_ ?_ | refine frk4 ?_ ?_ | refine frk5 ?_ ?_ | refine frk6 ?_ ?_ | refine frk7 ?_ ?_ | refine frk8 ?_ ?_ | refine frk9 ?_ ?_) <;> intro h <;> try (exfalso; omega)) | with_reducible refine quiet_and ?_ ?_ | with_reducible refine awp_drawnA mixed (by decide +kernel) ?_ | ((fail_if_success with_reducible refine stp ?_); simp -implicitDefEqProofs only [go_sem, Nat.reduceEqDiff, Nat.reduceAdd, Nat.reduceLT, Nat.reduceMul, Nat.reduceSub, Nat.reduceLeDiff, ↓reduceIte, reduceCtorEq, ↓String.reduceEq, String.reduceNe, Int.reduceToNat, Int.reduceLT, Int.reduceLE, Int.reduceGT, Int.reduceGE, Int.reduceEq, Int.reduceNe, Int.reduceBEq, Int.reduceBNe, Int.reduceAdd, Int.reduceSub, Int.reduceMul, Int.reduceNeg,  rowT, *]))
          exact Again.intro ⟨L - (i + 1), by have := H.out; omega, _, Sub.refl _, D.set c true, i + 1, t + y.2.2.2, .mk ⟨rfl, by omega, by rw [List.length_set]; exact H.out.2.2.1, HX.out.2, by show _ = endOf (S.getD i default); rw [HX.out.1]; rfl⟩, (by first | (simp only [upd, put, Nat.reduceEqDiff, ↓reduceIte, t0]; done) | (simp [upd, put, t0]; done) | rfl | (simp [upd, put, t0]; rfl)), (by first | (simp only [upd, put, Nat.reduceEqDiff, ↓reduceIte, t5]; done) | (simp [upd, put, t5]; done) | rfl | (simp [upd, put, t5]; rfl)), (by first | (simp only [upd, put, Nat.reduceEqDiff, ↓reduceIte, t7]; done) | (simp [upd, put, t7]; done) | rfl | (simp [upd, put, t7]; rfl)), ttt, ttt, by first | rfl | (simp only [rowT, hupd_hupd])⟩
      · have lt : ¬ (i : Int) < (L : Int) := by omega
        repeat' (first | exact tf0 ‹_› | exact tf1 ‹_› | exact False.elim ‹_› | (with_reducible refine Al.intro ?_; intro pb hpb; (try simp only [hupd_none'] at hpb); (repeat rcases hpb with ⟨⟨hpx, hpy⟩, hpb⟩)) | with_reducible refine need ?_ | ((with_reducible first | refine frk0 ?_ ?_ | refine frk1 ?_ ?_ | refine frk2 ?_ ?_ | refine frk3 ?_ ?_ | refine frk4 ?_ ?_ | refine frk5 ?_ ?_ | refine frk6 ?_ ?_ | refine frk7 ?_ ?_ | refine frk8 ?_ ?_ | refine frk9 ?_ ?_) <;> intro h <;> try (exfalso; omega)) | with_reducible refine quiet_and ?_ ?_ | with_reducible refine awp_drawnA mixed (by decide +kernel) ?_ | ((fail_if_success with_reducible refine stp ?_); simp -implicitDefEqProofs only [go_sem, Nat.reduceEqDiff, Nat.reduceAdd, Nat.reduceLT, Nat.reduceMul, Nat.reduceSub, Nat.reduceLeDiff, ↓reduceIte, reduceCtorEq, ↓String.reduceEq, String.reduceNe, Int.reduceToNat, Int.reduceLT, Int.reduceLE, Int.reduceGT, Int.reduceGE, Int.reduceEq, Int.reduceNe, Int.reduceBEq, Int.reduceBNe, Int.reduceAdd, Int.reduceSub, Int.reduceMul, Int.reduceNeg,  *]))
        exact Again.intro trivial
    · rintro ts m' -
      repeat' (first | exact tf0 ‹_› | exact tf1 ‹_› | exact False.elim ‹_› | (with_reducible refine Al.intro ?_; intro pb hpb; (try simp only [hupd_none'] at hpb); (repeat rcases hpb with ⟨⟨hpx, hpy⟩, hpb⟩)) | with_reducible refine need ?_ | ((with_reducible first | refine frk0 ?_ ?_ | refine frk1 ?_ ?_ | refine frk2 ?_ ?_ | refine frk3 ?_ ?_ | refine frk4 ?_ ?_ | refine frk5 ?_ ?_ | refine frk6 ?_ ?_ | refine frk7 ?_ ?_ | refine frk8 ?_ ?_ | refine frk9 ?_ ?_) <;> intro h <;> try (exfalso; omega)) | with_reducible refine quiet_and ?_ ?_ | with_reducible refine awp_drawnA mixed (by decide +kernel) ?_ | ((fail_if_success with_reducible refine stp ?_); simp -implicitDefEqProofs only [go_sem, Nat.reduceEqDiff, Nat.reduceAdd, Nat.reduceLT, Nat.reduceMul, Nat.reduceSub, Nat.reduceLeDiff, ↓reduceIte, reduceCtorEq, ↓String.reduceEq, String.reduceNe, Int.reduceToNat, Int.reduceLT, Int.reduceLE, Int.reduceGT, Int.reduceGE, Int.reduceEq, Int.reduceNe, Int.reduceBEq, Int.reduceBNe, Int.reduceAdd, Int.reduceSub, Int.reduceMul, Int.reduceNeg,  *]))
      refine CallWP.to (live_spec G _) ?_
      repeat' (first | exact tf0 ‹_› | exact tf1 ‹_› | exact False.elim ‹_› | (with_reducible refine Al.intro ?_; intro pb hpb; (try simp only [hupd_none'] at hpb); (repeat rcases hpb with ⟨⟨hpx, hpy⟩, hpb⟩)) | with_reducible refine need ?_ | ((with_reducible first | refine frk0 ?_ ?_ | refine frk1 ?_ ?_ | refine frk2 ?_ ?_ | refine frk3 ?_ ?_ | refine frk4 ?_ ?_ | refine frk5 ?_ ?_ | refine frk6 ?_ ?_ | refine frk7 ?_ ?_ | refine frk8 ?_ ?_ | refine frk9 ?_ ?_) <;> intro h <;> try (exfalso; omega)) | with_reducible refine quiet_and ?_ ?_ | with_reducible refine awp_drawnA mixed (by decide +kernel) ?_ | ((fail_if_success with_reducible refine stp ?_); simp -implicitDefEqProofs only [go_sem, Nat.reduceEqDiff, Nat.reduceAdd, Nat.reduceLT, Nat.reduceMul, Nat.reduceSub, Nat.reduceLeDiff, ↓reduceIte, reduceCtorEq, ↓String.reduceEq, String.reduceNe, Int.reduceToNat, Int.reduceLT, Int.reduceLE, Int.reduceGT, Int.reduceGE, Int.reduceEq, Int.reduceNe, Int.reduceBEq, Int.reduceBNe, Int.reduceAdd, Int.reduceSub, Int.reduceMul, Int.reduceNeg,  *]))
      exact ⟨fun _ => none, (by intro x y h; cases h), rfl, rfl⟩
end Go.Proofs.Ytmifapnmlhchlaa
