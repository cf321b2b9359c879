/- Whenever a job is begun, none that came by then is ahead of it. -/
import Derived.Test.YtmifapnmlhchlaaE27
set_option linter.all false
namespace Go.Proofs.Ytmifapnmlhchlaa
open Go Go.Proofs.Ytmifapnmlhchlaa.Ab
open Go.Proofs (Try.prog)
set_option maxRecDepth 100000
theorem Sends.first {n : Int} {J : List Jb} {S : List (Wt × Int)} (h : Sends n (idxJ J) 0 S) {i k : Nat} (hik : i < k) (hk : k < S.length) {x y : Wt × Int} (hx : S.getD i default = x) (hy : S.getD k default = y) (ht : y.1.1.2.1 ≤ x.2) : aheadF n y.1.1 x.1.1 = false := by
  obtain ⟨-, -, -, h4⟩ := h.nth i (by omega) x hx
  have hm : y ∈ S.drop i := by
    rw [← hy]
    have : S.getD k default = (S.drop i).getD (k - i) default := by simp [List.getD_eq_getElem?_getD, show i + (k - i) = k by omega]
    rw [this]
    exact getD_mem _ _ (by rw [List.length_drop]; omega)
  have hl := h4 y hm ht
  rw [ltW_false] at hl
  cases ha : aheadF n y.1.1 x.1.1 with
  | false => rfl
  | true =>
    exfalso
    apply hl
    unfold aheadF at ha
    simp only [Bool.and_eq_true, decide_eq_true_eq, cmpJ_lt] at ha
    exact .inl ha.2
set_option maxHeartbeats 4000000 in
theorem edfFirst_spec (G : Nat → AVal) (l : List Jb) (hll : l.length < 9223372036854775808) (len : Int) (h0 : 0 ≤ len) (h1 : len < 65536) : CallWP Try.prog G 6 [.list 4 (l.map encJ), .int .u16 len] (fun _ => none) fun v m' => v = .bool true ∧ m' = fun _ => none := by
  have w1 : IntKind.i64.wrap len = len := wrap_i64 (by omega) (by omega)
  have w2 : IntKind.i64.wrap (len + 1) = len + 1 := wrap_i64 (by omega) (by omega)
  have HC := Hid.mk (jobsF_right l (len + 1) (by omega) (by omega))
  have HLL := Hid.mk hll
  clear h0 h1 hll
  refine callWP_body Try.func6 rfl (N := 111) rfl (rs := [.tmp 4]) rfl en_6 (of_decide_eq_true rfl) ?_
  repeat' (first | exact tf0 ‹_› | exact tf1 ‹_› | exact False.elim ‹_› | (with_reducible refine Al.intro ?_; intro pb hpb; (try simp only [hupd_none'] at hpb); (repeat rcases hpb with ⟨⟨hpx, hpy⟩, hpb⟩)) | with_reducible refine need ?_ | ((with_reducible first | refine frk0 ?_ ?_ | refine frk1 ?_ ?_ | refine frk2 ?_ ?_ | refine frk3 ?_ ?_ | refine frk4 ?_ ?_ | refine frk5 ?_ ?_ | refine frk6 ?_ ?_ | refine frk7 ?_ ?_ | refine frk8 ?_ ?_ | refine frk9 ?_ ?_) <;> intro h <;> try (exfalso; omega)) | with_reducible refine quiet_and ?_ ?_ | with_reducible refine awp_drawnA mixed (by decide +kernel) ?_ | ((fail_if_success with_reducible refine stp ?_); simp -implicitDefEqProofs only [go_sem, Nat.reduceEqDiff, Nat.reduceAdd, Nat.reduceLT, Nat.reduceMul, Nat.reduceSub, Nat.reduceLeDiff, ↓reduceIte, reduceCtorEq, ↓String.reduceEq, String.reduceNe, Int.reduceToNat, Int.reduceLT, Int.reduceLE, Int.reduceGT, Int.reduceGE, Int.reduceEq, Int.reduceNe, Int.reduceBEq, Int.reduceBNe, Int.reduceAdd, Int.reduceSub, Int.reduceMul, Int.reduceNeg,  *]))
  refine jobs_spec G l HLL.out _ _ (fun vj m1 hsj hsub1 _ => ?_)
  repeat' (first | exact tf0 ‹_› | exact tf1 ‹_› | exact False.elim ‹_› | (with_reducible refine Al.intro ?_; intro pb hpb; (try simp only [hupd_none'] at hpb); (repeat rcases hpb with ⟨⟨hpx, hpy⟩, hpb⟩)) | with_reducible refine need ?_ | ((with_reducible first | refine frk0 ?_ ?_ | refine frk1 ?_ ?_ | refine frk2 ?_ ?_ | refine frk3 ?_ ?_ | refine frk4 ?_ ?_ | refine frk5 ?_ ?_ | refine frk6 ?_ ?_ | refine frk7 ?_ ?_ | refine frk8 ?_ ?_ | refine frk9 ?_ ?_) <;> intro h <;> try (exfalso; omega)) | with_reducible refine quiet_and ?_ ?_ | with_reducible refine awp_drawnA mixed (by decide +kernel) ?_ | ((fail_if_success with_reducible refine stp ?_); simp -implicitDefEqProofs only [go_sem, Nat.reduceEqDiff, Nat.reduceAdd, Nat.reduceLT, Nat.reduceMul, Nat.reduceSub, Nat.reduceLeDiff, ↓reduceIte, reduceCtorEq, ↓String.reduceEq, String.reduceNe, Int.reduceToNat, Int.reduceLT, Int.reduceLE, Int.reduceGT, Int.reduceGE, Int.reduceEq, Int.reduceNe, Int.reduceBEq, Int.reduceBNe, Int.reduceAdd, Int.reduceSub, Int.reduceMul, Int.reduceNeg,  *]))
  refine run_spec G (jobsF l) (len + 1) vj m1 (.inl hsj) _ (fun h => absurd HC.out h) (fun hc S vo m2 hse hso hsub2 _ => ?_)
  obtain ⟨J, hJ⟩ : ∃ J, J = jobsF l := ⟨_, rfl⟩
  rw [← hJ] at HC hsj hse
  have hjl : J.length ≤ 40 := by rw [hJ]; unfold jobsF; rw [List.length_map, List.length_take]; omega
  have hlen : S.length = J.length := by have := hse.perm.length_eq; rw [List.length_map, idxJ_len] at this; exact this
  have hsj2 := hsj.into hsub2
  obtain ⟨L, hL⟩ : ∃ L, L = J.length := ⟨_, rfl⟩
  have HR := Hid.mk (And.intro hse (And.intro hso (And.intro hsj2 (And.intro hlen (And.intro hL hjl)))))
  have hv1 : (vj = .nils ∧ L = 0) ∨ ∃ b o cap, vj = .slice b o L cap := by
    rcases hsj.slv with ⟨a, b⟩ | h
    · exact .inl ⟨a, by rw [hL, b]; rfl⟩
    · rw [hL]; exact .inr h
  have hv2 : (vo = .nils ∧ L = 0) ∨ ∃ b o cap, vo = .slice b o L cap := by
    rcases hso.slv with ⟨a, b⟩ | h
    · exact .inl ⟨a, by rw [hL, ← hlen, b]; rfl⟩
    · rw [hL, ← hlen]; exact .inr h
  have hL40 : L ≤ 40 := by omega
  clear hc hse hso hsj hsj2 hsub1 hsub2 hjl hlen hL hJ
  by_cases hl0 : L = 0
  · subst hl0
    clear hL40
    rcases hv1 with ⟨rfl, -⟩ | ⟨b1, o1, c1, rfl⟩ <;> rcases hv2 with ⟨rfl, -⟩ | ⟨b2, o2, c2, rfl⟩
    all_goals (
      repeat' (first | exact tf0 ‹_› | exact tf1 ‹_› | exact False.elim ‹_› | (with_reducible refine Al.intro ?_; intro pb hpb; (try simp only [hupd_none'] at hpb); (repeat rcases hpb with ⟨⟨hpx, hpy⟩, hpb⟩)) | with_reducible refine need ?_ | ((with_reducible first | refine frk0 ?_ ?_ | refine frk1 ?_ ?_ | refine frk2 ?_ ?_ | refine frk3 ?_ ?_ | refine frk4 ?_ ?_ | refine frk5 ?_ ?_ | refine frk6 ?_ ?_ | refine frk7 ?_ ?_ | refine frk8 ?_ ?_ | refine frk9 ?_ ?_) <;> intro h <;> try (exfalso; omega)) | with_reducible refine quiet_and ?_ ?_ | with_reducible refine awp_drawnA mixed (by decide +kernel) ?_ | ((fail_if_success with_reducible refine stp ?_); simp -implicitDefEqProofs only [go_sem, Nat.reduceEqDiff, Nat.reduceAdd, Nat.reduceLT, Nat.reduceMul, Nat.reduceSub, Nat.reduceLeDiff, ↓reduceIte, reduceCtorEq, ↓String.reduceEq, String.reduceNe, Int.reduceToNat, Int.reduceLT, Int.reduceLE, Int.reduceGT, Int.reduceGE, Int.reduceEq, Int.reduceNe, Int.reduceBEq, Int.reduceBNe, Int.reduceAdd, Int.reduceSub, Int.reduceMul, Int.reduceNeg,  *]))
      refine awp_loopP 0 (fun ts m' => True) (fun k ts m' => ts 8 = .int .i64 0 ∧ Emp (ts 6)) 0 ⟨ttt, by first | exact .inl (ttt) | exact .inr (.inl ⟨_, _, _, ttt⟩) | exact .inr (.inr (ttt))⟩ ?_ ?_
      · rintro k ts m' ⟨t8, e6⟩
        rcases e6 with t6 | ⟨b3, o3, c3, t6⟩ | t6
        all_goals (
          repeat' (first | exact tf0 ‹_› | exact tf1 ‹_› | exact False.elim ‹_› | (with_reducible refine Al.intro ?_; intro pb hpb; (try simp only [hupd_none'] at hpb); (repeat rcases hpb with ⟨⟨hpx, hpy⟩, hpb⟩)) | with_reducible refine need ?_ | ((with_reducible first | refine frk0 ?_ ?_ | refine frk1 ?_ ?_ | refine frk2 ?_ ?_ | refine frk3 ?_ ?_ | refine frk4 ?_ ?_ | refine frk5 ?_ ?_ | refine frk6 ?_ ?_ | refine frk7 ?_ ?_ | refine frk8 ?_ ?_ | refine frk9 ?_ ?_) <;> intro h <;> try (exfalso; omega)) | with_reducible refine quiet_and ?_ ?_ | with_reducible refine awp_drawnA mixed (by decide +kernel) ?_ | ((fail_if_success with_reducible refine stp ?_); simp -implicitDefEqProofs only [go_sem, Nat.reduceEqDiff, Nat.reduceAdd, Nat.reduceLT, Nat.reduceMul, Nat.reduceSub, Nat.reduceLeDiff, ↓reduceIte, reduceCtorEq, ↓String.reduceEq, String.reduceNe, Int.reduceToNat, Int.reduceLT, Int.reduceLE, Int.reduceGT, Int.reduceGE, Int.reduceEq, Int.reduceNe, Int.reduceBEq, Int.reduceBNe, Int.reduceAdd, Int.reduceSub, Int.reduceMul, Int.reduceNeg,  *]))
          exact Again.intro trivial)
      · rintro ts m' -
        repeat' (first | exact tf0 ‹_› | exact tf1 ‹_› | exact False.elim ‹_› | (with_reducible refine Al.intro ?_; intro pb hpb; (try simp only [hupd_none'] at hpb); (repeat rcases hpb with ⟨⟨hpx, hpy⟩, hpb⟩)) | with_reducible refine need ?_ | ((with_reducible first | refine frk0 ?_ ?_ | refine frk1 ?_ ?_ | refine frk2 ?_ ?_ | refine frk3 ?_ ?_ | refine frk4 ?_ ?_ | refine frk5 ?_ ?_ | refine frk6 ?_ ?_ | refine frk7 ?_ ?_ | refine frk8 ?_ ?_ | refine frk9 ?_ ?_) <;> intro h <;> try (exfalso; omega)) | with_reducible refine quiet_and ?_ ?_ | with_reducible refine awp_drawnA mixed (by decide +kernel) ?_ | ((fail_if_success with_reducible refine stp ?_); simp -implicitDefEqProofs only [go_sem, Nat.reduceEqDiff, Nat.reduceAdd, Nat.reduceLT, Nat.reduceMul, Nat.reduceSub, Nat.reduceLeDiff, ↓reduceIte, reduceCtorEq, ↓String.reduceEq, String.reduceNe, Int.reduceToNat, Int.reduceLT, Int.reduceLE, Int.reduceGT, Int.reduceGE, Int.reduceEq, Int.reduceNe, Int.reduceBEq, Int.reduceBNe, Int.reduceAdd, Int.reduceSub, Int.reduceMul, Int.reduceNeg,  *]))
        refine CallWP.to (live_spec G _) ?_
        repeat' (first | exact tf0 ‹_› | exact tf1 ‹_› | exact False.elim ‹_› | (with_reducible refine Al.intro ?_; intro pb hpb; (try simp only [hupd_none'] at hpb); (repeat rcases hpb with ⟨⟨hpx, hpy⟩, hpb⟩)) | with_reducible refine need ?_ | ((with_reducible first | refine frk0 ?_ ?_ | refine frk1 ?_ ?_ | refine frk2 ?_ ?_ | refine frk3 ?_ ?_ | refine frk4 ?_ ?_ | refine frk5 ?_ ?_ | refine frk6 ?_ ?_ | refine frk7 ?_ ?_ | refine frk8 ?_ ?_ | refine frk9 ?_ ?_) <;> intro h <;> try (exfalso; omega)) | with_reducible refine quiet_and ?_ ?_ | with_reducible refine awp_drawnA mixed (by decide +kernel) ?_ | ((fail_if_success with_reducible refine stp ?_); simp -implicitDefEqProofs only [go_sem, Nat.reduceEqDiff, Nat.reduceAdd, Nat.reduceLT, Nat.reduceMul, Nat.reduceSub, Nat.reduceLeDiff, ↓reduceIte, reduceCtorEq, ↓String.reduceEq, String.reduceNe, Int.reduceToNat, Int.reduceLT, Int.reduceLE, Int.reduceGT, Int.reduceGE, Int.reduceEq, Int.reduceNe, Int.reduceBEq, Int.reduceBNe, Int.reduceAdd, Int.reduceSub, Int.reduceMul, Int.reduceNeg,  *]))
        exact ⟨fun _ => none, (by intro x y h; cases h), rfl, rfl⟩)
  · obtain ⟨bj, oj, cj, rfl⟩ := hv1.resolve_left fun h => hl0 h.2
    obtain ⟨bs, os, cs, rfl⟩ := hv2.resolve_left fun h => hl0 h.2
    clear hv1 hv2
    obtain ⟨prj, poj, Nj, rfl, -, rowj, -, -⟩ := slm_slice HR.out.2.2.1
    obtain ⟨prs, pos, Ns, rfl, -, rows, -, -⟩ := slm_slice HR.out.2.1
    repeat' (first | exact tf0 ‹_› | exact tf1 ‹_› | exact False.elim ‹_› | (with_reducible refine Al.intro ?_; intro pb hpb; (try simp only [hupd_none'] at hpb); (repeat rcases hpb with ⟨⟨hpx, hpy⟩, hpb⟩)) | with_reducible refine need ?_ | ((with_reducible first | refine frk0 ?_ ?_ | refine frk1 ?_ ?_ | refine frk2 ?_ ?_ | refine frk3 ?_ ?_ | refine frk4 ?_ ?_ | refine frk5 ?_ ?_ | refine frk6 ?_ ?_ | refine frk7 ?_ ?_ | refine frk8 ?_ ?_ | refine frk9 ?_ ?_) <;> intro h <;> try (exfalso; omega)) | with_reducible refine quiet_and ?_ ?_ | with_reducible refine awp_drawnA mixed (by decide +kernel) ?_ | ((fail_if_success with_reducible refine stp ?_); simp -implicitDefEqProofs only [go_sem, Nat.reduceEqDiff, Nat.reduceAdd, Nat.reduceLT, Nat.reduceMul, Nat.reduceSub, Nat.reduceLeDiff, ↓reduceIte, reduceCtorEq, ↓String.reduceEq, String.reduceNe, Int.reduceToNat, Int.reduceLT, Int.reduceLE, Int.reduceGT, Int.reduceGE, Int.reduceEq, Int.reduceNe, Int.reduceBEq, Int.reduceBNe, Int.reduceAdd, Int.reduceSub, Int.reduceMul, Int.reduceNeg,  *]))
    refine awp_loopP 0 (fun ts m' => True)
      (fun k ts m' => ∃ (i : Nat), Hid (k = L - i ∧ i ≤ L) ∧ ts 0 = .slice bj prj.length L cj ∧ ts 5 = .int .i64 (len + 1) ∧ ts 6 = .slice bs prs.length L cs ∧ ts 8 = .int .i64 (i : Nat) ∧ m' = m2) L
      ⟨0, .mk ⟨rfl, Nat.zero_le _⟩, ttt, ttt, ttt, ttt, rfl⟩ ?_ ?_
    · rintro k ts m3 ⟨i, H, t0, t5, t6, t8, hm3⟩
      subst m3
      by_cases hi : i < L
      · have lt : (i : Int) < (L : Int) := by omega
        have w4 : IntKind.i64.wrap ((i : Int) + 1) = ((i + 1 : Nat) : Int) := by rw [wrap_i64 (by omega) (by omega)]; omega
        repeat' (first | exact tf0 ‹_› | exact tf1 ‹_› | exact False.elim ‹_› | (with_reducible refine Al.intro ?_; intro pb hpb; (try simp only [hupd_none'] at hpb); (repeat rcases hpb with ⟨⟨hpx, hpy⟩, hpb⟩)) | with_reducible refine need ?_ | ((with_reducible first | refine frk0 ?_ ?_ | refine frk1 ?_ ?_ | refine frk2 ?_ ?_ | refine frk3 ?_ ?_ | refine frk4 ?_ ?_ | refine frk5 ?_ ?_ | refine frk6 ?_ ?_ | refine frk7 ?_ ?_ | refine frk8 ?_ ?_ | refine frk9 ?_ ?_) <;> intro h <;> try (exfalso; omega)) | with_reducible refine quiet_and ?_ ?_ | with_reducible refine awp_drawnA mixed (by decide +kernel) ?_ | ((fail_if_success with_reducible refine stp ?_); simp -implicitDefEqProofs only [go_sem, Nat.reduceEqDiff, Nat.reduceAdd, Nat.reduceLT, Nat.reduceMul, Nat.reduceSub, Nat.reduceLeDiff, ↓reduceIte, reduceCtorEq, ↓String.reduceEq, String.reduceNe, Int.reduceToNat, Int.reduceLT, Int.reduceLE, Int.reduceGT, Int.reduceGE, Int.reduceEq, Int.reduceNe, Int.reduceBEq, Int.reduceBNe, Int.reduceAdd, Int.reduceSub, Int.reduceMul, Int.reduceNeg,  *]))
        refine awp_loopP 2 (fun ts m' => ts 0 = .slice bj prj.length L cj ∧ ts 5 = .int .i64 (len + 1) ∧ ts 6 = .slice bs prs.length L cs ∧ ts 8 = .int .i64 (i : Nat) ∧ m' = m2)
          (fun k ts m' => ∃ (j : Nat), Hid (k = L - j ∧ i < j ∧ j ≤ L) ∧ ts 0 = .slice bj prj.length L cj ∧ ts 5 = .int .i64 (len + 1) ∧ ts 6 = .slice bs prs.length L cs ∧ ts 8 = .int .i64 (i : Nat) ∧ ts 9 = .int .i64 (j : Nat) ∧ m' = m2) (L - (i + 1))
          ⟨i + 1, .mk ⟨rfl, by omega, by omega⟩, (by first | (simp only [upd, put, Nat.reduceEqDiff, ↓reduceIte, t0]; done) | (simp [upd, put, t0]; done) | rfl | (simp [upd, put, t0]; rfl)), (by first | (simp only [upd, put, Nat.reduceEqDiff, ↓reduceIte, t5]; done) | (simp [upd, put, t5]; done) | rfl | (simp [upd, put, t5]; rfl)), (by first | (simp only [upd, put, Nat.reduceEqDiff, ↓reduceIte, t6]; done) | (simp [upd, put, t6]; done) | rfl | (simp [upd, put, t6]; rfl)), (by first | (simp only [upd, put, Nat.reduceEqDiff, ↓reduceIte, t8]; done) | (simp [upd, put, t8]; done) | rfl | (simp [upd, put, t8]; rfl)), ttt, rfl⟩ ?_ ?_
        · clear t0 t5 t6 t8
          rintro k ts m3 ⟨j, H2, t0, t5, t6, t8, t9, hm3⟩
          subst m3
          by_cases hj : j < L
          · have lj : (j : Int) < (L : Int) := by omega
            have hiS : i < S.length := by have := HR.out; omega
            have hjS : j < S.length := by have := HR.out; omega
            obtain ⟨x, hx⟩ : ∃ x, S.getD i default = x := ⟨_, rfl⟩
            obtain ⟨x2, hx2⟩ : ∃ x, S.getD j default = x := ⟨_, rfl⟩
            have hxm : x.1 ∈ idxJ J := HR.out.1.perm.mem_iff.1 (List.mem_map_of_mem (by rw [← hx]; exact getD_mem S i hiS))
            have hxm2 : x2.1 ∈ idxJ J := HR.out.1.perm.mem_iff.1 (List.mem_map_of_mem (by rw [← hx2]; exact getD_mem S j hjS))
            obtain ⟨c, hc, hxe⟩ := mem_idx.1 hxm
            obtain ⟨c2, hc2, hxe2⟩ := mem_idx.1 hxm2
            obtain ⟨⟨y, at_⟩, t⟩ := x
            obtain ⟨⟨z, at2⟩, t2⟩ := x2
            injection hxe with he1 he2
            injection hxe2 with he3 he4
            subst he2 he4
            have hah := fun h => HR.out.1.first (k := j) H2.out.2.1 hjS hx hx2 h
            have HA := Hid.mk hah
            have g0 := st_job S prs pos i hiS _ hx
            obtain ⟨g1, -⟩ := st_cells S prs pos i hiS _ hx
            have l1 := st_len S prs pos i hiS
            have g3 := st_job S prs pos j hjS _ hx2
            have l3 := st_len S prs pos j hjS
            have g4 := j_at J prj poj c hc y he1.symm
            have l4 := j_len J prj poj c hc
            have g5 := j_at J prj poj c2 hc2 z he3.symm
            have l5 := j_len J prj poj c2 hc2
            have lc : ¬ (L : Int) ≤ (c : Int) := by have := HR.out; omega
            have lc0 : ¬ (c : Int) < 0 := by omega
            have lc1 : (c : Int) < (L : Int) := by omega
            have ld : ¬ (L : Int) ≤ (c2 : Int) := by have := HR.out; omega
            have ld0 : ¬ (c2 : Int) < 0 := by omega
            have ld1 : (c2 : Int) < (L : Int) := by omega
            have w5 : IntKind.i64.wrap ((j : Int) + 1) = ((j + 1 : Nat) : Int) := by rw [wrap_i64 (by omega) (by omega)]; omega
            have nl := neL rows
            have nr := neR rows
            have nl2 := neL rowj
            have nr2 := neR rowj
            clear hxm hxm2 hc hc2 he1 he3 hx hx2 hiS hjS hah
            repeat' (first | exact tf0 ‹_› | exact tf1 ‹_› | exact False.elim ‹_› | (with_reducible refine Al.intro ?_; intro pb hpb; (try simp only [hupd_none'] at hpb); (repeat rcases hpb with ⟨⟨hpx, hpy⟩, hpb⟩)) | with_reducible refine need ?_ | ((with_reducible first | refine frk0 ?_ ?_ | refine frk1 ?_ ?_ | refine frk2 ?_ ?_ | refine frk3 ?_ ?_ | refine frk4 ?_ ?_ | refine frk5 ?_ ?_ | refine frk6 ?_ ?_ | refine frk7 ?_ ?_ | refine frk8 ?_ ?_ | refine frk9 ?_ ?_) <;> intro h <;> try (exfalso; omega)) | with_reducible refine quiet_and ?_ ?_ | with_reducible refine awp_drawnA mixed (by decide +kernel) ?_ | ((fail_if_success with_reducible refine stp ?_); simp -implicitDefEqProofs only [go_sem, Nat.reduceEqDiff, Nat.reduceAdd, Nat.reduceLT, Nat.reduceMul, Nat.reduceSub, Nat.reduceLeDiff, ↓reduceIte, reduceCtorEq, ↓String.reduceEq, String.reduceNe, Int.reduceToNat, Int.reduceLT, Int.reduceLE, Int.reduceGT, Int.reduceGE, Int.reduceEq, Int.reduceNe, Int.reduceBEq, Int.reduceBNe, Int.reduceAdd, Int.reduceSub, Int.reduceMul, Int.reduceNeg,  *]))
            refine awp_drawnE [(0, .q), (1, .q), (2, .q), (8, .r [18]), (9, .r [18]), (10, .r [18]), (16, .q), (17, .q), (3, .q), (11, .r [18]), (4, .q), (12, .r [18]), (5, .q), (13, .r [18]), (6, .q), (14, .r [18]), (7, .q), (15, .r [18]), (18, .e), (19, .e)] (fun _ => .undef) (fun _ => False) (fun u y => u = 18 ∧ (y = bs ∨ y = bj)) mixed (by decide +kernel) ?_
            repeat' (first | exact tf0 ‹_› | exact tf1 ‹_› | exact False.elim ‹_› | (with_reducible refine Al.intro ?_; intro pb hpb; (try simp only [hupd_none'] at hpb); (repeat rcases hpb with ⟨⟨hpx, hpy⟩, hpb⟩)) | with_reducible refine need ?_ | ((with_reducible first | refine frk0 ?_ ?_ | refine frk1 ?_ ?_ | refine frk2 ?_ ?_ | refine frk3 ?_ ?_ | refine frk4 ?_ ?_ | refine frk5 ?_ ?_ | refine frk6 ?_ ?_ | refine frk7 ?_ ?_ | refine frk8 ?_ ?_ | refine frk9 ?_ ?_) <;> intro h <;> try (exfalso; omega)) | with_reducible refine quiet_and ?_ ?_ | with_reducible refine awp_drawnA mixed (by decide +kernel) ?_ | ((fail_if_success with_reducible refine stp ?_); simp -implicitDefEqProofs only [go_sem, Nat.reduceEqDiff, Nat.reduceAdd, Nat.reduceLT, Nat.reduceMul, Nat.reduceSub, Nat.reduceLeDiff, ↓reduceIte, reduceCtorEq, ↓String.reduceEq, String.reduceNe, Int.reduceToNat, Int.reduceLT, Int.reduceLE, Int.reduceGT, Int.reduceGE, Int.reduceEq, Int.reduceNe, Int.reduceBEq, Int.reduceBNe, Int.reduceAdd, Int.reduceSub, Int.reduceMul, Int.reduceNeg,  true_and, false_and, true_or, or_true, false_or, or_false, anil, *]))
            · refine CallWP.to (rahead_spec G (len + 1) z y _) ?_
              rw [show aheadF (len + 1) z y = false from HA.out (show z.2.1 ≤ t by assumption)]
              repeat' (first | exact tf0 ‹_› | exact tf1 ‹_› | exact False.elim ‹_› | (with_reducible refine Al.intro ?_; intro pb hpb; (try simp only [hupd_none'] at hpb); (repeat rcases hpb with ⟨⟨hpx, hpy⟩, hpb⟩)) | with_reducible refine need ?_ | ((with_reducible first | refine frk0 ?_ ?_ | refine frk1 ?_ ?_ | refine frk2 ?_ ?_ | refine frk3 ?_ ?_ | refine frk4 ?_ ?_ | refine frk5 ?_ ?_ | refine frk6 ?_ ?_ | refine frk7 ?_ ?_ | refine frk8 ?_ ?_ | refine frk9 ?_ ?_) <;> intro h <;> try (exfalso; omega)) | with_reducible refine quiet_and ?_ ?_ | with_reducible refine awp_drawnA mixed (by decide +kernel) ?_ | ((fail_if_success with_reducible refine stp ?_); simp -implicitDefEqProofs only [go_sem, Nat.reduceEqDiff, Nat.reduceAdd, Nat.reduceLT, Nat.reduceMul, Nat.reduceSub, Nat.reduceLeDiff, ↓reduceIte, reduceCtorEq, ↓String.reduceEq, String.reduceNe, Int.reduceToNat, Int.reduceLT, Int.reduceLE, Int.reduceGT, Int.reduceGE, Int.reduceEq, Int.reduceNe, Int.reduceBEq, Int.reduceBNe, Int.reduceAdd, Int.reduceSub, Int.reduceMul, Int.reduceNeg,  *]))
              exact Again.intro ⟨L - (j + 1), by have := H2.out; omega, _, (by (repeat refine Sub.fresh ?_ (by assumption)); exact Sub.refl _), j + 1, .mk ⟨rfl, by have := H2.out; omega, by omega⟩, (by first | (simp only [upd, put, Nat.reduceEqDiff, ↓reduceIte, t0]; done) | (simp [upd, put, t0]; done) | rfl | (simp [upd, put, t0]; rfl)), (by first | (simp only [upd, put, Nat.reduceEqDiff, ↓reduceIte, t5]; done) | (simp [upd, put, t5]; done) | rfl | (simp [upd, put, t5]; rfl)), (by first | (simp only [upd, put, Nat.reduceEqDiff, ↓reduceIte, t6]; done) | (simp [upd, put, t6]; done) | rfl | (simp [upd, put, t6]; rfl)), (by first | (simp only [upd, put, Nat.reduceEqDiff, ↓reduceIte, t8]; done) | (simp [upd, put, t8]; done) | rfl | (simp [upd, put, t8]; rfl)), ttt, rfl⟩
            · exact Again.intro ⟨L - (j + 1), by have := H2.out; omega, _, (by (repeat refine Sub.fresh ?_ (by assumption)); exact Sub.refl _), j + 1, .mk ⟨rfl, by have := H2.out; omega, by omega⟩, (by first | (simp only [upd, put, Nat.reduceEqDiff, ↓reduceIte, t0]; done) | (simp [upd, put, t0]; done) | rfl | (simp [upd, put, t0]; rfl)), (by first | (simp only [upd, put, Nat.reduceEqDiff, ↓reduceIte, t5]; done) | (simp [upd, put, t5]; done) | rfl | (simp [upd, put, t5]; rfl)), (by first | (simp only [upd, put, Nat.reduceEqDiff, ↓reduceIte, t6]; done) | (simp [upd, put, t6]; done) | rfl | (simp [upd, put, t6]; rfl)), (by first | (simp only [upd, put, Nat.reduceEqDiff, ↓reduceIte, t8]; done) | (simp [upd, put, t8]; done) | rfl | (simp [upd, put, t8]; rfl)), ttt, rfl⟩
          · have lj : ¬ (j : Int) < (L : Int) := by omega
            repeat' (first | exact tf0 ‹_› | exact tf1 ‹_› | exact False.elim ‹_› | (with_reducible refine Al.intro ?_; intro pb hpb; (try simp only [hupd_none'] at hpb); (repeat rcases hpb with ⟨⟨hpx, hpy⟩, hpb⟩)) | with_reducible refine need ?_ | ((with_reducible first | refine frk0 ?_ ?_ | refine frk1 ?_ ?_ | refine frk2 ?_ ?_ | refine frk3 ?_ ?_ | refine frk4 ?_ ?_ | refine frk5 ?_ ?_ | refine frk6 ?_ ?_ | refine frk7 ?_ ?_ | refine frk8 ?_ ?_ | refine frk9 ?_ ?_) <;> intro h <;> try (exfalso; omega)) | with_reducible refine quiet_and ?_ ?_ | with_reducible refine awp_drawnA mixed (by decide +kernel) ?_ | ((fail_if_success with_reducible refine stp ?_); simp -implicitDefEqProofs only [go_sem, Nat.reduceEqDiff, Nat.reduceAdd, Nat.reduceLT, Nat.reduceMul, Nat.reduceSub, Nat.reduceLeDiff, ↓reduceIte, reduceCtorEq, ↓String.reduceEq, String.reduceNe, Int.reduceToNat, Int.reduceLT, Int.reduceLE, Int.reduceGT, Int.reduceGE, Int.reduceEq, Int.reduceNe, Int.reduceBEq, Int.reduceBNe, Int.reduceAdd, Int.reduceSub, Int.reduceMul, Int.reduceNeg,  *]))
            exact Again.intro ⟨(by first | (simp only [upd, put, Nat.reduceEqDiff, ↓reduceIte, t0]; done) | (simp [upd, put, t0]; done) | rfl | (simp [upd, put, t0]; rfl)), (by first | (simp only [upd, put, Nat.reduceEqDiff, ↓reduceIte, t5]; done) | (simp [upd, put, t5]; done) | rfl | (simp [upd, put, t5]; rfl)), (by first | (simp only [upd, put, Nat.reduceEqDiff, ↓reduceIte, t6]; done) | (simp [upd, put, t6]; done) | rfl | (simp [upd, put, t6]; rfl)), (by first | (simp only [upd, put, Nat.reduceEqDiff, ↓reduceIte, t8]; done) | (simp [upd, put, t8]; done) | rfl | (simp [upd, put, t8]; rfl)), rfl⟩
        · clear t0 t5 t6 t8
          rintro ts m3 ⟨t0, t5, t6, t8, hm3⟩
          subst m3
          repeat' (first | exact tf0 ‹_› | exact tf1 ‹_› | exact False.elim ‹_› | (with_reducible refine Al.intro ?_; intro pb hpb; (try simp only [hupd_none'] at hpb); (repeat rcases hpb with ⟨⟨hpx, hpy⟩, hpb⟩)) | with_reducible refine need ?_ | ((with_reducible first | refine frk0 ?_ ?_ | refine frk1 ?_ ?_ | refine frk2 ?_ ?_ | refine frk3 ?_ ?_ | refine frk4 ?_ ?_ | refine frk5 ?_ ?_ | refine frk6 ?_ ?_ | refine frk7 ?_ ?_ | refine frk8 ?_ ?_ | refine frk9 ?_ ?_) <;> intro h <;> try (exfalso; omega)) | with_reducible refine quiet_and ?_ ?_ | with_reducible refine awp_drawnA mixed (by decide +kernel) ?_ | ((fail_if_success with_reducible refine stp ?_); simp -implicitDefEqProofs only [go_sem, Nat.reduceEqDiff, Nat.reduceAdd, Nat.reduceLT, Nat.reduceMul, Nat.reduceSub, Nat.reduceLeDiff, ↓reduceIte, reduceCtorEq, ↓String.reduceEq, String.reduceNe, Int.reduceToNat, Int.reduceLT, Int.reduceLE, Int.reduceGT, Int.reduceGE, Int.reduceEq, Int.reduceNe, Int.reduceBEq, Int.reduceBNe, Int.reduceAdd, Int.reduceSub, Int.reduceMul, Int.reduceNeg,  *]))
          exact Again.intro ⟨L - (i + 1), by have := H.out; omega, _, Sub.refl _, i + 1, .mk ⟨rfl, by omega⟩, (by first | (simp only [upd, put, Nat.reduceEqDiff, ↓reduceIte, t0]; done) | (simp [upd, put, t0]; done) | rfl | (simp [upd, put, t0]; rfl)), (by first | (simp only [upd, put, Nat.reduceEqDiff, ↓reduceIte, t5]; done) | (simp [upd, put, t5]; done) | rfl | (simp [upd, put, t5]; rfl)), (by first | (simp only [upd, put, Nat.reduceEqDiff, ↓reduceIte, t6]; done) | (simp [upd, put, t6]; done) | rfl | (simp [upd, put, t6]; rfl)), ttt, rfl⟩
      · have lt : ¬ (i : Int) < (L : Int) := by omega
        repeat' (first | exact tf0 ‹_› | exact tf1 ‹_› | exact False.elim ‹_› | (with_reducible refine Al.intro ?_; intro pb hpb; (try simp only [hupd_none'] at hpb); (repeat rcases hpb with ⟨⟨hpx, hpy⟩, hpb⟩)) | with_reducible refine need ?_ | ((with_reducible first | refine frk0 ?_ ?_ | refine frk1 ?_ ?_ | refine frk2 ?_ ?_ | refine frk3 ?_ ?_ | refine frk4 ?_ ?_ | refine frk5 ?_ ?_ | refine frk6 ?_ ?_ | refine frk7 ?_ ?_ | refine frk8 ?_ ?_ | refine frk9 ?_ ?_) <;> intro h <;> try (exfalso; omega)) | with_reducible refine quiet_and ?_ ?_ | with_reducible refine awp_drawnA mixed (by decide +kernel) ?_ | ((fail_if_success with_reducible refine stp ?_); simp -implicitDefEqProofs only [go_sem, Nat.reduceEqDiff, Nat.reduceAdd, Nat.reduceLT, Nat.reduceMul, Nat.reduceSub, Nat.reduceLeDiff, ↓reduceIte, reduceCtorEq, ↓String.reduceEq, String.reduceNe, Int.reduceToNat, Int.reduceLT, Int.reduceLE, Int.reduceGT, Int.reduceGE, Int.reduceEq, Int.reduceNe, Int.reduceBEq, Int.reduceBNe, Int.reduceAdd, Int.reduceSub, Int.reduceMul, Int.reduceNeg,  *]))
        exact Again.intro trivial
    · rintro ts m' -
      repeat' (first | exact tf0 ‹_› | exact tf1 ‹_› | exact False.elim ‹_› | (with_reducible refine Al.intro ?_; intro pb hpb; (try simp only [hupd_none'] at hpb); (repeat rcases hpb with ⟨⟨hpx, hpy⟩, hpb⟩)) | with_reducible refine need ?_ | ((with_reducible first | refine frk0 ?_ ?_ | refine frk1 ?_ ?_ | refine frk2 ?_ ?_ | refine frk3 ?_ ?_ | refine frk4 ?_ ?_ | refine frk5 ?_ ?_ | refine frk6 ?_ ?_ | refine frk7 ?_ ?_ | refine frk8 ?_ ?_ | refine frk9 ?_ ?_) <;> intro h <;> try (exfalso; omega)) | with_reducible refine quiet_and ?_ ?_ | with_reducible refine awp_drawnA mixed (by decide +kernel) ?_ | ((fail_if_success with_reducible refine stp ?_); simp -implicitDefEqProofs only [go_sem, Nat.reduceEqDiff, Nat.reduceAdd, Nat.reduceLT, Nat.reduceMul, Nat.reduceSub, Nat.reduceLeDiff, ↓reduceIte, reduceCtorEq, ↓String.reduceEq, String.reduceNe, Int.reduceToNat, Int.reduceLT, Int.reduceLE, Int.reduceGT, Int.reduceGE, Int.reduceEq, Int.reduceNe, Int.reduceBEq, Int.reduceBNe, Int.reduceAdd, Int.reduceSub, Int.reduceMul, Int.reduceNeg,  *]))
      refine CallWP.to (live_spec G _) ?_
      repeat' (first | exact tf0 ‹_› | exact tf1 ‹_› | exact False.elim ‹_› | (with_reducible refine Al.intro ?_; intro pb hpb; (try simp only [hupd_none'] at hpb); (repeat rcases hpb with ⟨⟨hpx, hpy⟩, hpb⟩)) | with_reducible refine need ?_ | ((with_reducible first | refine frk0 ?_ ?_ | refine frk1 ?_ ?_ | refine frk2 ?_ ?_ | refine frk3 ?_ ?_ | refine frk4 ?_ ?_ | refine frk5 ?_ ?_ | refine frk6 ?_ ?_ | refine frk7 ?_ ?_ | refine frk8 ?_ ?_ | refine frk9 ?_ ?_) <;> intro h <;> try (exfalso; omega)) | with_reducible refine quiet_and ?_ ?_ | with_reducible refine awp_drawnA mixed (by decide +kernel) ?_ | ((fail_if_success with_reducible refine stp ?_); simp -implicitDefEqProofs only [go_sem, Nat.reduceEqDiff, Nat.reduceAdd, Nat.reduceLT, Nat.reduceMul, Nat.reduceSub, Nat.reduceLeDiff, ↓reduceIte, reduceCtorEq, ↓String.reduceEq, String.reduceNe, Int.reduceToNat, Int.reduceLT, Int.reduceLE, Int.reduceGT, Int.reduceGE, Int.reduceEq, Int.reduceNe, Int.reduceBEq, Int.reduceBNe, Int.reduceAdd, Int.reduceSub, Int.reduceMul, Int.reduceNeg,  *]))
      exact ⟨fun _ => none, (by intro x y h; cases h), rfl, rfl⟩
end Go.Proofs.Ytmifapnmlhchlaa
