/- Jobs of streams, as they come: the walk. -/
import Derived.Test.YtmifapnmlhchlaaE32
set_option linter.all false
namespace Go.Proofs.Ytmifapnmlhchlaa
open Go Go.Proofs.Ytmifapnmlhchlaa.Ab
open Go.Proofs (Try.prog)
set_option maxRecDepth 100000
/-- The memory of the walk. -/
structure NMem (m m' : Heap) (pn L : Nat) (D : List Int) (v : AVal) (J : List Jb) : Prop where
  row : m' pn = some (rowN D L)
  out : SlM encJc 4 J v m'
  sub : Sub m m'
  fd : m pn = none
  fo : ∀ c, bOf v = some c → m c = none
  no : bOf v ≠ some pn
theorem NMem.into {m m' m2 : Heap} {pn L : Nat} {D : List Int} {v : AVal} {J : List Jb} (h : NMem m m' pn L D v J) (s : Sub m' m2) : NMem m m2 pn L D v J :=
  ⟨s _ _ h.row, h.out.into s, fun x y hx => s x y (h.sub x y hx), h.fd, h.fo, h.no⟩
theorem NMem.set {m m' : Heap} {pn L : Nat} {D D2 : List Int} {v : AVal} {J : List Jb} (h : NMem m m' pn L D v J) : NMem m (hupd m' pn (rowN D2 L)) pn L D2 v J :=
  ⟨by rw [hupd_at, if_pos rfl], h.out.keep fun q hq => hupd_ne (fun e => h.no (by rw [hq, e])), fun q y hq => by rw [hupd_ne (fun e => by rw [e, h.fd] at hq; cases hq)]; exact h.sub q y hq, h.fd, h.fo, h.no⟩
theorem NMem.app {m m' m2 : Heap} {pn L : Nat} {D : List Int} {v v2 : AVal} {J J2 : List Jb} (h : NMem m m' pn L D v J) (f : AppFr v m' v2 m2) (h2 : SlM encJc 4 J2 v2 m2) : NMem m m2 pn L D v2 J2 where
  row := by rw [f.1 pn h.no (by rw [h.row]; simp)]; exact h.row
  out := h2
  sub := fun x y hx => by
    rw [f.1 x (fun e => by rw [h.fo x e] at hx; cases hx) (by rw [h.sub x y hx]; simp)]
    exact h.sub x y hx
  fd := h.fd
  fo := fun c hc => by
    rcases f.2 c hc with e | e
    · exact h.sub.gone e
    · exact h.fo c e
  no := fun e => by
    rcases f.2 pn e with k | k
    · rw [h.row] at k; cases k
    · exact h.no k
set_option maxHeartbeats 4000000 in
theorem cjobs_spec (G : Nat → AVal) (C : List Stm) (hC : GoodC C) (l : List Cm) (hll : l.length < 9223372036854775808) (hcl : ∀ c ∈ l, 0 ≤ c.2 ∧ c.2 ≤ 65535) (vs : AVal) (m : Heap) (hs : SlM encSc 7 C vs m) (K : AVal → Heap → Prop)
    (hK : ∀ (T : List Tg) (v : AVal) (m' : Heap), CameT C T → T.length ≤ 60 → SlM encJc 4 (T.map (jobT C)) v m' → Sub m m' → (∀ b, bOf v = some b → m b = none) → K v m') :
    CallWP Try.prog G 23 [vs, .list 2 (l.map encCm), .int .i64 9000] m K := by
  have HK := Hid.mk hK
  have HC := Hid.mk hC
  have HLL := Hid.mk hll
  have HCL := Hid.mk hcl
  have HS := Hid.mk hs
  obtain ⟨L, hL⟩ : ∃ L, L = C.length := ⟨_, rfl⟩
  have H0 := Hid.mk hL
  have hv : (vs = .nils ∧ L = 0) ∨ ∃ b o cap, vs = .slice b o L cap := by
    rcases hs.slv with ⟨a, b⟩ | h
    · exact .inl ⟨a, by rw [hL, b]; rfl⟩
    · rw [hL]; exact .inr h
  have hL6 : L ≤ 6 := by have := hC.1; omega
  have ll : (l.map encCm).length = l.length := List.length_map _
  clear hK hC hll hcl hs hL
  by_cases h0 : L = 0
  · subst h0
    clear hL6
    rcases hv with ⟨rfl, -⟩ | ⟨b, o, cap, rfl⟩
    all_goals (
      refine callWP_body Try.func23 rfl (N := 91) rfl (rs := [.tmp 6]) rfl en_23 (of_decide_eq_true rfl) ?_
      repeat' (first | exact tf0 ‹_› | exact tf1 ‹_› | exact False.elim ‹_› | (with_reducible refine Al.intro ?_; intro pb hpb; (try simp only [hupd_none'] at hpb); (repeat rcases hpb with ⟨⟨hpx, hpy⟩, hpb⟩)) | with_reducible refine need ?_ | ((with_reducible first | refine frk0 ?_ ?_ | refine frk1 ?_ ?_ | refine frk2 ?_ ?_ | refine frk3 ?_ ?_ | refine frk4 ?_ ?_ | refine frk5 ?_ ?_ | refine frk6 ?_ ?_ | refine frk7 ?_ ?_ | refine frk8 ?_ ?_ | refine frk9 ?_ ?_) <;> intro h <;> try (exfalso; omega)) | with_reducible refine quiet_and ?_ ?_ | with_reducible refine awp_drawnA mixed (by decide +kernel) ?_ | ((fail_if_success with_reducible refine stp ?_); simp -implicitDefEqProofs only [go_sem, Nat.reduceEqDiff, Nat.reduceAdd, Nat.reduceLT, Nat.reduceMul, Nat.reduceSub, Nat.reduceLeDiff, ↓reduceIte, reduceCtorEq, ↓String.reduceEq, String.reduceNe, Int.reduceToNat, Int.reduceLT, Int.reduceLE, Int.reduceGT, Int.reduceGE, Int.reduceEq, Int.reduceNe, Int.reduceBEq, Int.reduceBNe, Int.reduceAdd, Int.reduceSub, Int.reduceMul, Int.reduceNeg,  *]))
      refine awp_loopP 0 (fun ts m' => ts 7 = .nils ∧ Hid (Sub m m')) (fun k ts m' => ts 7 = .nils ∧ ts 1 = .list 2 (l.map encCm) ∧ ts 9 = .int .i64 0 ∧ Emp (ts 0) ∧ Hid (Sub m m')) 0 ⟨ttt, ttt, ttt, by first | exact .inl (ttt) | exact .inr (.inl ⟨_, _, _, ttt⟩) | exact .inr (.inr (ttt)), .mk ((by (repeat refine Sub.fresh ?_ (by assumption)); exact Sub.refl _))⟩ ?_ ?_
      · rintro k ts m' ⟨t7, t1, t9, e0, hs⟩
        rcases e0 with t0 | ⟨b3, o3, c3, t0⟩ | t0
        all_goals (
          repeat' (first | exact tf0 ‹_› | exact tf1 ‹_› | exact False.elim ‹_› | (with_reducible refine Al.intro ?_; intro pb hpb; (try simp only [hupd_none'] at hpb); (repeat rcases hpb with ⟨⟨hpx, hpy⟩, hpb⟩)) | with_reducible refine need ?_ | ((with_reducible first | refine frk0 ?_ ?_ | refine frk1 ?_ ?_ | refine frk2 ?_ ?_ | refine frk3 ?_ ?_ | refine frk4 ?_ ?_ | refine frk5 ?_ ?_ | refine frk6 ?_ ?_ | refine frk7 ?_ ?_ | refine frk8 ?_ ?_ | refine frk9 ?_ ?_) <;> intro h <;> try (exfalso; omega)) | with_reducible refine quiet_and ?_ ?_ | with_reducible refine awp_drawnA mixed (by decide +kernel) ?_ | ((fail_if_success with_reducible refine stp ?_); simp -implicitDefEqProofs only [go_sem, Nat.reduceEqDiff, Nat.reduceAdd, Nat.reduceLT, Nat.reduceMul, Nat.reduceSub, Nat.reduceLeDiff, ↓reduceIte, reduceCtorEq, ↓String.reduceEq, String.reduceNe, Int.reduceToNat, Int.reduceLT, Int.reduceLE, Int.reduceGT, Int.reduceGE, Int.reduceEq, Int.reduceNe, Int.reduceBEq, Int.reduceBNe, Int.reduceAdd, Int.reduceSub, Int.reduceMul, Int.reduceNeg,  *]))
          all_goals exact Again.intro ⟨(by first | (simp only [upd, put, Nat.reduceEqDiff, ↓reduceIte, t7]; done) | (simp [upd, put, t7]; done) | rfl | (simp [upd, put, t7]; rfl)), hs⟩)
      · rintro ts m' ⟨t7, hs⟩
        repeat' (first | exact tf0 ‹_› | exact tf1 ‹_› | exact False.elim ‹_› | (with_reducible refine Al.intro ?_; intro pb hpb; (try simp only [hupd_none'] at hpb); (repeat rcases hpb with ⟨⟨hpx, hpy⟩, hpb⟩)) | with_reducible refine need ?_ | ((with_reducible first | refine frk0 ?_ ?_ | refine frk1 ?_ ?_ | refine frk2 ?_ ?_ | refine frk3 ?_ ?_ | refine frk4 ?_ ?_ | refine frk5 ?_ ?_ | refine frk6 ?_ ?_ | refine frk7 ?_ ?_ | refine frk8 ?_ ?_ | refine frk9 ?_ ?_) <;> intro h <;> try (exfalso; omega)) | with_reducible refine quiet_and ?_ ?_ | with_reducible refine awp_drawnA mixed (by decide +kernel) ?_ | ((fail_if_success with_reducible refine stp ?_); simp -implicitDefEqProofs only [go_sem, Nat.reduceEqDiff, Nat.reduceAdd, Nat.reduceLT, Nat.reduceMul, Nat.reduceSub, Nat.reduceLeDiff, ↓reduceIte, reduceCtorEq, ↓String.reduceEq, String.reduceNe, Int.reduceToNat, Int.reduceLT, Int.reduceLE, Int.reduceGT, Int.reduceGE, Int.reduceEq, Int.reduceNe, Int.reduceBEq, Int.reduceBNe, Int.reduceAdd, Int.reduceSub, Int.reduceMul, Int.reduceNeg,  *]))
        refine ⟨_, Sub.refl _, ?_⟩
        (try rw [t7])
        exact HK.out [] .nils _ ⟨by simp, .nil⟩ (by simp) (.inl ⟨rfl, rfl⟩) hs.out (by simp [bOf]))
  · obtain ⟨b, o, cap, rfl⟩ := hv.resolve_left fun h => h0 h.2
    obtain ⟨pre, post, N, rfl, -, hb, -, -⟩ := slm_slice HS.out
    have lp : (0 : Int) < (L : Int) := by omega
    refine callWP_body Try.func23 rfl (N := 91) rfl (rs := [.tmp 6]) rfl en_23 (of_decide_eq_true rfl) ?_
    clear hv
    repeat' (first | exact tf0 ‹_› | exact tf1 ‹_› | exact False.elim ‹_› | (with_reducible refine Al.intro ?_; intro pb hpb; (try simp only [hupd_none'] at hpb); (repeat rcases hpb with ⟨⟨hpx, hpy⟩, hpb⟩)) | with_reducible refine need ?_ | ((with_reducible first | refine frk0 ?_ ?_ | refine frk1 ?_ ?_ | refine frk2 ?_ ?_ | refine frk3 ?_ ?_ | refine frk4 ?_ ?_ | refine frk5 ?_ ?_ | refine frk6 ?_ ?_ | refine frk7 ?_ ?_ | refine frk8 ?_ ?_ | refine frk9 ?_ ?_) <;> intro h <;> try (exfalso; omega)) | with_reducible refine quiet_and ?_ ?_ | with_reducible refine awp_drawnA mixed (by decide +kernel) ?_ | ((fail_if_success with_reducible refine stp ?_); simp -implicitDefEqProofs only [go_sem, Nat.reduceEqDiff, Nat.reduceAdd, Nat.reduceLT, Nat.reduceMul, Nat.reduceSub, Nat.reduceLeDiff, ↓reduceIte, reduceCtorEq, ↓String.reduceEq, String.reduceNe, Int.reduceToNat, Int.reduceLT, Int.reduceLE, Int.reduceGT, Int.reduceGE, Int.reduceEq, Int.reduceNe, Int.reduceBEq, Int.reduceBNe, Int.reduceAdd, Int.reduceSub, Int.reduceMul, Int.reduceNeg,  *]))
    have HP := Hid.mk hpb
    obtain ⟨pn, epn⟩ : ∃ pn, pn = pb := ⟨_, rfl⟩
    rw [rowN_rep]
    have nl := neL hb pb hpb
    have nr := neR hb pb hpb
    clear hpb
    subst epn
    refine awp_loopP 0 (fun ts m' => ∃ (T : List Tg) (v : AVal), Hid (CameT C T ∧ T.length ≤ 60 ∧ SlM encJc 4 (T.map (jobT C)) v m' ∧ Sub m m' ∧ ∀ x, bOf v = some x → m x = none) ∧ ts 7 = v)
      (fun k ts m' => ∃ (T : List Tg) (v : AVal) (D : List Int) (i : Nat), Hid (k = 60 - i ∧ i ≤ 60 ∧ T.length ≤ i ∧ CameT C T ∧ NextOK C T D ∧ NMem m m' pn L D v (T.map (jobT C))) ∧ ts 0 = .slice b pre.length L cap ∧ ts 1 = .list 2 (l.map encCm) ∧ ts 2 = .int .i64 9000 ∧ ts 7 = v ∧ ts 8 = .slice pn 0 L L ∧ ts 9 = .int .i64 (i : Nat)) 60
      ⟨[], .nils, List.replicate L 0, 0, .mk ⟨rfl, Nat.zero_le _, Nat.le_refl _, ⟨by simp, .nil⟩, by rw [H0.out]; exact NextOK.start C, ⟨by rw [hupd_at, if_pos rfl], .inl ⟨rfl, rfl⟩, Sub.fresh (Sub.refl _) HP.out, HP.out, by simp [bOf], by simp [bOf]⟩⟩, ttt, ttt, ttt, ttt, ttt, ttt⟩ ?_ ?_
    · rintro k ts m2 ⟨T, v, D, i, H, t0, t1, t2, t7, t8, t9⟩
      by_cases hi : i < l.length
      · have lt : (i : Int) < (l.length : Int) := by omega
        by_cases hi2 : i < 60
        · have lt2 : (i : Int) < 60 := by omega
          obtain ⟨x, hx⟩ : ∃ x, l.getD i default = x := ⟨_, rfl⟩
          have g1 := cm_at l i hi x hx
          have hxr := HCL.out x (by rw [← hx]; exact getD_mem l i hi)
          obtain ⟨hD1, hD2, hD3⟩ := H.out.2.2.2.2.1
          have hpi := partF_in x.1 (L : Int) lp
          obtain ⟨c, hc⟩ : ∃ c : Nat, (c : Int) = partF x.1 (L : Int) := ⟨(partF x.1 (L : Int)).toNat, by omega⟩
          rw [← hc] at hpi
          have hcL : c < L := by omega
          have hcC : c < C.length := by have := H0.out; omega
          have hcD : c < D.length := by omega
          obtain ⟨s, hs⟩ : ∃ s, C.getD c default = s := ⟨_, rfl⟩
          have hsg := HC.out.2 s (by rw [← hs]; exact getD_mem C c hcC)
          have hsr := rightS_zero.1 hsg.1
          obtain ⟨d, hd⟩ : ∃ d, D.getD c 0 = d := ⟨_, rfl⟩
          have hdi := hD2 c hcC
          rw [hd] at hdi
          have hq := Int.tmod_nonneg (a := x.2) 3000 hxr.1
          have hq2 := Int.tmod_lt_of_pos x.2 (show (0 : Int) < 3000 by decide)
          obtain ⟨a, ha⟩ : ∃ a, a = d + x.2.tmod 3000 := ⟨_, rfl⟩
          have w1 : IntKind.i64.wrap ((i : Int) + 1) = ((i + 1 : Nat) : Int) := by rw [wrap_i64 (by omega) (by omega)]; omega
          have w2 : IntKind.i64.wrap x.2 = x.2 := wrap_i64 (by omega) (by omega)
          have w3 : IntKind.i64.wrap (x.2.tmod 3000) = x.2.tmod 3000 := wrap_i64 (by omega) (by omega)
          have w4 : IntKind.i64.wrap (d + x.2.tmod 3000) = a := by rw [wrap_i64 (by omega) (by omega)]; exact ha.symm
          have w5 : IntKind.i64.wrap (a + s.2.2.2.1) = a + s.2.2.2.1 := wrap_i64 (by omega) (by omega)
          have g2 := sm_at C pre post c hcC s hs
          have g3 := sm_cell C pre post c hcC s hs 3 (by decide)
          have g4 := sm_cell C pre post c hcC s hs 2 (by decide)
          rw [show (encSc s).getD 3 .undef = .int .i64 s.2.2.2.1 from rfl] at g3
          rw [show (encSc s).getD 2 .undef = .int .i64 s.2.2.1 from rfl] at g4
          have l1 := sm_len C pre post c hcC
          have g5 := rowN_at D c hcD d hd
          have l2 := rowN_len D
          have l3 : c < (D.flatMap encN).length := by omega
          have s1 := rowN_set D c (a + s.2.2.2.1) hcD
          have row2 := H.out.2.2.2.2.2.row
          have hb2 := H.out.2.2.2.2.2.sub _ _ hb
          have nl2 := neL row2
          have nr2 := neR row2
          have nl3 := neL hb2
          have nr3 := neR hb2
          have lc1 : (c : Int) < (L : Int) := by omega
          have lc0 : ¬ (c : Int) < 0 := by omega
          have HJ := Hid.mk (job25_spec G s a hsg.1 (by omega) (by omega))
          have HPS := Hid.mk (part_spec G x.1 (L : Int) lp)
          rw [← hc] at HPS
          have HX := Hid.mk (And.intro hs (And.intro hcC (And.intro hd (And.intro (show d ≤ a by omega) (And.intro hsg hsr)))))
          clear hx hxr hD1 hD2 hD3 hpi hc hcL hcC hcD hs hsg hsr hd hdi hq hq2 ha l2
          repeat' (first | exact tf0 ‹_› | exact tf1 ‹_› | exact False.elim ‹_› | (with_reducible refine Al.intro ?_; intro pb hpb; (try simp only [hupd_none'] at hpb); (repeat rcases hpb with ⟨⟨hpx, hpy⟩, hpb⟩)) | with_reducible refine need ?_ | ((with_reducible first | refine frk0 ?_ ?_ | refine frk1 ?_ ?_ | refine frk2 ?_ ?_ | refine frk3 ?_ ?_ | refine frk4 ?_ ?_ | refine frk5 ?_ ?_ | refine frk6 ?_ ?_ | refine frk7 ?_ ?_ | refine frk8 ?_ ?_ | refine frk9 ?_ ?_) <;> intro h <;> try (exfalso; omega)) | with_reducible refine quiet_and ?_ ?_ | with_reducible refine awp_drawnA mixed (by decide +kernel) ?_ | ((fail_if_success with_reducible refine stp ?_); simp -implicitDefEqProofs only [go_sem, Nat.reduceEqDiff, Nat.reduceAdd, Nat.reduceLT, Nat.reduceMul, Nat.reduceSub, Nat.reduceLeDiff, ↓reduceIte, reduceCtorEq, ↓String.reduceEq, String.reduceNe, Int.reduceToNat, Int.reduceLT, Int.reduceLE, Int.reduceGT, Int.reduceGE, Int.reduceEq, Int.reduceNe, Int.reduceBEq, Int.reduceBNe, Int.reduceAdd, Int.reduceSub, Int.reduceMul, Int.reduceNeg,  *]))
          refine CallWP.to (HPS.out _) ?_
          repeat' (first | exact tf0 ‹_› | exact tf1 ‹_› | exact False.elim ‹_› | (with_reducible refine Al.intro ?_; intro pb hpb; (try simp only [hupd_none'] at hpb); (repeat rcases hpb with ⟨⟨hpx, hpy⟩, hpb⟩)) | with_reducible refine need ?_ | ((with_reducible first | refine frk0 ?_ ?_ | refine frk1 ?_ ?_ | refine frk2 ?_ ?_ | refine frk3 ?_ ?_ | refine frk4 ?_ ?_ | refine frk5 ?_ ?_ | refine frk6 ?_ ?_ | refine frk7 ?_ ?_ | refine frk8 ?_ ?_ | refine frk9 ?_ ?_) <;> intro h <;> try (exfalso; omega)) | with_reducible refine quiet_and ?_ ?_ | with_reducible refine awp_drawnA mixed (by decide +kernel) ?_ | ((fail_if_success with_reducible refine stp ?_); simp -implicitDefEqProofs only [go_sem, Nat.reduceEqDiff, Nat.reduceAdd, Nat.reduceLT, Nat.reduceMul, Nat.reduceSub, Nat.reduceLeDiff, ↓reduceIte, reduceCtorEq, ↓String.reduceEq, String.reduceNe, Int.reduceToNat, Int.reduceLT, Int.reduceLE, Int.reduceGT, Int.reduceGE, Int.reduceEq, Int.reduceNe, Int.reduceBEq, Int.reduceBNe, Int.reduceAdd, Int.reduceSub, Int.reduceMul, Int.reduceNeg,  rowN, *]))
          refine CallWP.to (HJ.out _) ?_
          by_cases hdl : 9000 < a + s.2.2.2.2.1
          · repeat' (first | exact tf0 ‹_› | exact tf1 ‹_› | exact False.elim ‹_› | (with_reducible refine Al.intro ?_; intro pb hpb; (try simp only [hupd_none'] at hpb); (repeat rcases hpb with ⟨⟨hpx, hpy⟩, hpb⟩)) | with_reducible refine need ?_ | ((with_reducible first | refine frk0 ?_ ?_ | refine frk1 ?_ ?_ | refine frk2 ?_ ?_ | refine frk3 ?_ ?_ | refine frk4 ?_ ?_ | refine frk5 ?_ ?_ | refine frk6 ?_ ?_ | refine frk7 ?_ ?_ | refine frk8 ?_ ?_ | refine frk9 ?_ ?_) <;> intro h <;> try (exfalso; omega)) | with_reducible refine quiet_and ?_ ?_ | with_reducible refine awp_drawnA mixed (by decide +kernel) ?_ | ((fail_if_success with_reducible refine stp ?_); simp -implicitDefEqProofs only [go_sem, Nat.reduceEqDiff, Nat.reduceAdd, Nat.reduceLT, Nat.reduceMul, Nat.reduceSub, Nat.reduceLeDiff, ↓reduceIte, reduceCtorEq, ↓String.reduceEq, String.reduceNe, Int.reduceToNat, Int.reduceLT, Int.reduceLE, Int.reduceGT, Int.reduceGE, Int.reduceEq, Int.reduceNe, Int.reduceBEq, Int.reduceBNe, Int.reduceAdd, Int.reduceSub, Int.reduceMul, Int.reduceNeg,  rowN, *]))
            exact Again.intro ⟨60 - (i + 1), by have := H.out; omega, _, Sub.refl _, T, v, D, i + 1, .mk ⟨rfl, by omega, by have := H.out; omega, H.out.2.2.2.1, H.out.2.2.2.2.1, H.out.2.2.2.2.2.into ((by (repeat refine Sub.fresh ?_ (by assumption)); exact Sub.refl _))⟩, (by first | (simp only [upd, put, Nat.reduceEqDiff, ↓reduceIte, t0]; done) | (simp [upd, put, t0]; done) | rfl | (simp [upd, put, t0]; rfl)), (by first | (simp only [upd, put, Nat.reduceEqDiff, ↓reduceIte, t1]; done) | (simp [upd, put, t1]; done) | rfl | (simp [upd, put, t1]; rfl)), (by first | (simp only [upd, put, Nat.reduceEqDiff, ↓reduceIte, t2]; done) | (simp [upd, put, t2]; done) | rfl | (simp [upd, put, t2]; rfl)), (by first | (simp only [upd, put, Nat.reduceEqDiff, ↓reduceIte, t7]; done) | (simp [upd, put, t7]; done) | rfl | (simp [upd, put, t7]; rfl)), (by first | (simp only [upd, put, Nat.reduceEqDiff, ↓reduceIte, t8]; done) | (simp [upd, put, t8]; done) | rfl | (simp [upd, put, t8]; rfl)), ttt⟩
          · obtain ⟨hN, hT⟩ := H.out.2.2.2.2.1.step H.out.2.2.2.1 HX.out.2.1 (at_ := a) (by rw [HX.out.2.2.1]; exact HX.out.2.2.2.1) (by rw [HX.out.1]; omega) (by rw [HX.out.1]; have := HX.out.2.2.2.2; omega) (by rw [HX.out.1]; have := HX.out.2.2.2.2; omega)
            rw [HX.out.1] at hN
            have HNT := Hid.mk (And.intro hN hT)
            clear hN hT
            by_cases hcl : s.2.2.1 = 1
            · repeat' (first | exact tf0 ‹_› | exact tf1 ‹_› | exact False.elim ‹_› | (with_reducible refine Al.intro ?_; intro pb hpb; (try simp only [hupd_none'] at hpb); (repeat rcases hpb with ⟨⟨hpx, hpy⟩, hpb⟩)) | with_reducible refine need ?_ | ((with_reducible first | refine frk0 ?_ ?_ | refine frk1 ?_ ?_ | refine frk2 ?_ ?_ | refine frk3 ?_ ?_ | refine frk4 ?_ ?_ | refine frk5 ?_ ?_ | refine frk6 ?_ ?_ | refine frk7 ?_ ?_ | refine frk8 ?_ ?_ | refine frk9 ?_ ?_) <;> intro h <;> try (exfalso; omega)) | with_reducible refine quiet_and ?_ ?_ | with_reducible refine awp_drawnA mixed (by decide +kernel) ?_ | ((fail_if_success with_reducible refine stp ?_); simp -implicitDefEqProofs only [go_sem, Nat.reduceEqDiff, Nat.reduceAdd, Nat.reduceLT, Nat.reduceMul, Nat.reduceSub, Nat.reduceLeDiff, ↓reduceIte, reduceCtorEq, ↓String.reduceEq, String.reduceNe, Int.reduceToNat, Int.reduceLT, Int.reduceLE, Int.reduceGT, Int.reduceGE, Int.reduceEq, Int.reduceNe, Int.reduceBEq, Int.reduceBNe, Int.reduceAdd, Int.reduceSub, Int.reduceMul, Int.reduceNeg,  rowN, *]))
              rename_i p1 hp1 _ _
              have hpn : m2 pn ≠ none := by rw [row2]; simp
              have M1 : NMem m _ pn L (D.set c (a + s.2.2.2.1)) v (T.map (jobT C)) := ((H.out.2.2.2.2.2.into (Sub.fresh (x := .cells [.int .i64 s.1, .int .i64 a, .int .i64 (a + s.2.2.2.2.1), .int .i64 (costS s)] 4) (Sub.refl _) hp1)).set (D2 := D.set c (a + s.2.2.2.1))).into (Sub.fresh (b := pb) (x := .cells [.int .i64 s.1, .int .i64 a, .int .i64 (a + s.2.2.2.2.1), .int .i64 (costS s)] 4) (Sub.refl _) (by rw [hupd_ne (by assumption), hupd_ne (by assumption)]; exact hpb))
              refine app1 (enc := encJc) (sz := 4) (C := T.map (jobT C)) (x := jobT C (c, a)) Try.underlying22 tk_42 eb_42 zl_42 (by decide) (by rw [Try.underlying22]; rfl) (by unfold isInt; rw [Try.underlying22]) encJc_len rfl ⟨4, by rw [hupd_at, if_pos rfl]; unfold jobT; rw [HX.out.1, if_pos hcl]⟩ M1.out (by rw [List.length_map]; have := H.out; omega) (fun v2 m6 h1 h2 => ?_)
              have HN := Hid.mk (M1.app h2 h1)
              clear h1 h2 M1
              repeat' (first | exact tf0 ‹_› | exact tf1 ‹_› | exact False.elim ‹_› | (with_reducible refine Al.intro ?_; intro pb hpb; (try simp only [hupd_none'] at hpb); (repeat rcases hpb with ⟨⟨hpx, hpy⟩, hpb⟩)) | with_reducible refine need ?_ | ((with_reducible first | refine frk0 ?_ ?_ | refine frk1 ?_ ?_ | refine frk2 ?_ ?_ | refine frk3 ?_ ?_ | refine frk4 ?_ ?_ | refine frk5 ?_ ?_ | refine frk6 ?_ ?_ | refine frk7 ?_ ?_ | refine frk8 ?_ ?_ | refine frk9 ?_ ?_) <;> intro h <;> try (exfalso; omega)) | with_reducible refine quiet_and ?_ ?_ | with_reducible refine awp_drawnA mixed (by decide +kernel) ?_ | ((fail_if_success with_reducible refine stp ?_); simp -implicitDefEqProofs only [go_sem, Nat.reduceEqDiff, Nat.reduceAdd, Nat.reduceLT, Nat.reduceMul, Nat.reduceSub, Nat.reduceLeDiff, ↓reduceIte, reduceCtorEq, ↓String.reduceEq, String.reduceNe, Int.reduceToNat, Int.reduceLT, Int.reduceLE, Int.reduceGT, Int.reduceGE, Int.reduceEq, Int.reduceNe, Int.reduceBEq, Int.reduceBNe, Int.reduceAdd, Int.reduceSub, Int.reduceMul, Int.reduceNeg,  anil, *]))
              exact Again.intro ⟨60 - (i + 1), by have := H.out; omega, _, Sub.refl _, T ++ [(c, a)], v2, D.set c (a + s.2.2.2.1), i + 1, .mk ⟨rfl, by omega, by rw [List.length_append]; have := H.out; simp; omega, HNT.out.2, HNT.out.1, by rw [List.map_append]; exact HN.out⟩, (by first | (simp only [upd, put, Nat.reduceEqDiff, ↓reduceIte, t0]; done) | (simp [upd, put, t0]; done) | rfl | (simp [upd, put, t0]; rfl)), (by first | (simp only [upd, put, Nat.reduceEqDiff, ↓reduceIte, t1]; done) | (simp [upd, put, t1]; done) | rfl | (simp [upd, put, t1]; rfl)), (by first | (simp only [upd, put, Nat.reduceEqDiff, ↓reduceIte, t2]; done) | (simp [upd, put, t2]; done) | rfl | (simp [upd, put, t2]; rfl)), ttt, (by first | (simp only [upd, put, Nat.reduceEqDiff, ↓reduceIte, t8]; done) | (simp [upd, put, t8]; done) | rfl | (simp [upd, put, t8]; rfl)), ttt⟩
            · repeat' (first | exact tf0 ‹_› | exact tf1 ‹_› | exact False.elim ‹_› | (with_reducible refine Al.intro ?_; intro pb hpb; (try simp only [hupd_none'] at hpb); (repeat rcases hpb with ⟨⟨hpx, hpy⟩, hpb⟩)) | with_reducible refine need ?_ | ((with_reducible first | refine frk0 ?_ ?_ | refine frk1 ?_ ?_ | refine frk2 ?_ ?_ | refine frk3 ?_ ?_ | refine frk4 ?_ ?_ | refine frk5 ?_ ?_ | refine frk6 ?_ ?_ | refine frk7 ?_ ?_ | refine frk8 ?_ ?_ | refine frk9 ?_ ?_) <;> intro h <;> try (exfalso; omega)) | with_reducible refine quiet_and ?_ ?_ | with_reducible refine awp_drawnA mixed (by decide +kernel) ?_ | ((fail_if_success with_reducible refine stp ?_); simp -implicitDefEqProofs only [go_sem, Nat.reduceEqDiff, Nat.reduceAdd, Nat.reduceLT, Nat.reduceMul, Nat.reduceSub, Nat.reduceLeDiff, ↓reduceIte, reduceCtorEq, ↓String.reduceEq, String.reduceNe, Int.reduceToNat, Int.reduceLT, Int.reduceLE, Int.reduceGT, Int.reduceGE, Int.reduceEq, Int.reduceNe, Int.reduceBEq, Int.reduceBNe, Int.reduceAdd, Int.reduceSub, Int.reduceMul, Int.reduceNeg,  rowN, *]))
              rename_i p1 hp1 _ _
              have hpn : m2 pn ≠ none := by rw [row2]; simp
              have M1 : NMem m _ pn L (D.set c (a + s.2.2.2.1)) v (T.map (jobT C)) := ((H.out.2.2.2.2.2.into (Sub.fresh (x := .cells [.int .i64 s.1, .int .i64 a, .int .i64 2251799813685248, .int .i64 (costS s)] 4) (Sub.refl _) hp1)).set (D2 := D.set c (a + s.2.2.2.1))).into (Sub.fresh (b := pb) (x := .cells [.int .i64 s.1, .int .i64 a, .int .i64 2251799813685248, .int .i64 (costS s)] 4) (Sub.refl _) (by rw [hupd_ne (by assumption), hupd_ne (by assumption)]; exact hpb))
              refine app1 (enc := encJc) (sz := 4) (C := T.map (jobT C)) (x := jobT C (c, a)) Try.underlying22 tk_42 eb_42 zl_42 (by decide) (by rw [Try.underlying22]; rfl) (by unfold isInt; rw [Try.underlying22]) encJc_len rfl ⟨4, by rw [hupd_at, if_pos rfl]; unfold jobT; rw [HX.out.1, if_neg hcl]⟩ M1.out (by rw [List.length_map]; have := H.out; omega) (fun v2 m6 h1 h2 => ?_)
              have HN := Hid.mk (M1.app h2 h1)
              clear h1 h2 M1
              repeat' (first | exact tf0 ‹_› | exact tf1 ‹_› | exact False.elim ‹_› | (with_reducible refine Al.intro ?_; intro pb hpb; (try simp only [hupd_none'] at hpb); (repeat rcases hpb with ⟨⟨hpx, hpy⟩, hpb⟩)) | with_reducible refine need ?_ | ((with_reducible first | refine frk0 ?_ ?_ | refine frk1 ?_ ?_ | refine frk2 ?_ ?_ | refine frk3 ?_ ?_ | refine frk4 ?_ ?_ | refine frk5 ?_ ?_ | refine frk6 ?_ ?_ | refine frk7 ?_ ?_ | refine frk8 ?_ ?_ | refine frk9 ?_ ?_) <;> intro h <;> try (exfalso; omega)) | with_reducible refine quiet_and ?_ ?_ | with_reducible refine awp_drawnA mixed (by decide +kernel) ?_ | ((fail_if_success with_reducible refine stp ?_); simp -implicitDefEqProofs only [go_sem, Nat.reduceEqDiff, Nat.reduceAdd, Nat.reduceLT, Nat.reduceMul, Nat.reduceSub, Nat.reduceLeDiff, ↓reduceIte, reduceCtorEq, ↓String.reduceEq, String.reduceNe, Int.reduceToNat, Int.reduceLT, Int.reduceLE, Int.reduceGT, Int.reduceGE, Int.reduceEq, Int.reduceNe, Int.reduceBEq, Int.reduceBNe, Int.reduceAdd, Int.reduceSub, Int.reduceMul, Int.reduceNeg,  anil, *]))
              exact Again.intro ⟨60 - (i + 1), by have := H.out; omega, _, Sub.refl _, T ++ [(c, a)], v2, D.set c (a + s.2.2.2.1), i + 1, .mk ⟨rfl, by omega, by rw [List.length_append]; have := H.out; simp; omega, HNT.out.2, HNT.out.1, by rw [List.map_append]; exact HN.out⟩, (by first | (simp only [upd, put, Nat.reduceEqDiff, ↓reduceIte, t0]; done) | (simp [upd, put, t0]; done) | rfl | (simp [upd, put, t0]; rfl)), (by first | (simp only [upd, put, Nat.reduceEqDiff, ↓reduceIte, t1]; done) | (simp [upd, put, t1]; done) | rfl | (simp [upd, put, t1]; rfl)), (by first | (simp only [upd, put, Nat.reduceEqDiff, ↓reduceIte, t2]; done) | (simp [upd, put, t2]; done) | rfl | (simp [upd, put, t2]; rfl)), ttt, (by first | (simp only [upd, put, Nat.reduceEqDiff, ↓reduceIte, t8]; done) | (simp [upd, put, t8]; done) | rfl | (simp [upd, put, t8]; rfl)), ttt⟩
        · have lt2 : ¬ (i : Int) < 60 := by omega
          repeat' (first | exact tf0 ‹_› | exact tf1 ‹_› | exact False.elim ‹_› | (with_reducible refine Al.intro ?_; intro pb hpb; (try simp only [hupd_none'] at hpb); (repeat rcases hpb with ⟨⟨hpx, hpy⟩, hpb⟩)) | with_reducible refine need ?_ | ((with_reducible first | refine frk0 ?_ ?_ | refine frk1 ?_ ?_ | refine frk2 ?_ ?_ | refine frk3 ?_ ?_ | refine frk4 ?_ ?_ | refine frk5 ?_ ?_ | refine frk6 ?_ ?_ | refine frk7 ?_ ?_ | refine frk8 ?_ ?_ | refine frk9 ?_ ?_) <;> intro h <;> try (exfalso; omega)) | with_reducible refine quiet_and ?_ ?_ | with_reducible refine awp_drawnA mixed (by decide +kernel) ?_ | ((fail_if_success with_reducible refine stp ?_); simp -implicitDefEqProofs only [go_sem, Nat.reduceEqDiff, Nat.reduceAdd, Nat.reduceLT, Nat.reduceMul, Nat.reduceSub, Nat.reduceLeDiff, ↓reduceIte, reduceCtorEq, ↓String.reduceEq, String.reduceNe, Int.reduceToNat, Int.reduceLT, Int.reduceLE, Int.reduceGT, Int.reduceGE, Int.reduceEq, Int.reduceNe, Int.reduceBEq, Int.reduceBNe, Int.reduceAdd, Int.reduceSub, Int.reduceMul, Int.reduceNeg,  *]))
          exact Again.intro ⟨T, v, .mk ⟨H.out.2.2.2.1, by have := H.out; omega, H.out.2.2.2.2.2.out, H.out.2.2.2.2.2.sub, H.out.2.2.2.2.2.fo⟩, (by first | (simp only [upd, put, Nat.reduceEqDiff, ↓reduceIte, t7]; done) | (simp [upd, put, t7]; done) | rfl | (simp [upd, put, t7]; rfl))⟩
      · have lt : ¬ (i : Int) < (l.length : Int) := by omega
        repeat' (first | exact tf0 ‹_› | exact tf1 ‹_› | exact False.elim ‹_› | (with_reducible refine Al.intro ?_; intro pb hpb; (try simp only [hupd_none'] at hpb); (repeat rcases hpb with ⟨⟨hpx, hpy⟩, hpb⟩)) | with_reducible refine need ?_ | ((with_reducible first | refine frk0 ?_ ?_ | refine frk1 ?_ ?_ | refine frk2 ?_ ?_ | refine frk3 ?_ ?_ | refine frk4 ?_ ?_ | refine frk5 ?_ ?_ | refine frk6 ?_ ?_ | refine frk7 ?_ ?_ | refine frk8 ?_ ?_ | refine frk9 ?_ ?_) <;> intro h <;> try (exfalso; omega)) | with_reducible refine quiet_and ?_ ?_ | with_reducible refine awp_drawnA mixed (by decide +kernel) ?_ | ((fail_if_success with_reducible refine stp ?_); simp -implicitDefEqProofs only [go_sem, Nat.reduceEqDiff, Nat.reduceAdd, Nat.reduceLT, Nat.reduceMul, Nat.reduceSub, Nat.reduceLeDiff, ↓reduceIte, reduceCtorEq, ↓String.reduceEq, String.reduceNe, Int.reduceToNat, Int.reduceLT, Int.reduceLE, Int.reduceGT, Int.reduceGE, Int.reduceEq, Int.reduceNe, Int.reduceBEq, Int.reduceBNe, Int.reduceAdd, Int.reduceSub, Int.reduceMul, Int.reduceNeg,  *]))
        exact Again.intro ⟨T, v, .mk ⟨H.out.2.2.2.1, by have := H.out; omega, H.out.2.2.2.2.2.out, H.out.2.2.2.2.2.sub, H.out.2.2.2.2.2.fo⟩, (by first | (simp only [upd, put, Nat.reduceEqDiff, ↓reduceIte, t7]; done) | (simp [upd, put, t7]; done) | rfl | (simp [upd, put, t7]; rfl))⟩
    · rintro ts m2 ⟨T, v, H, t7⟩
      repeat' (first | exact tf0 ‹_› | exact tf1 ‹_› | exact False.elim ‹_› | (with_reducible refine Al.intro ?_; intro pb hpb; (try simp only [hupd_none'] at hpb); (repeat rcases hpb with ⟨⟨hpx, hpy⟩, hpb⟩)) | with_reducible refine need ?_ | ((with_reducible first | refine frk0 ?_ ?_ | refine frk1 ?_ ?_ | refine frk2 ?_ ?_ | refine frk3 ?_ ?_ | refine frk4 ?_ ?_ | refine frk5 ?_ ?_ | refine frk6 ?_ ?_ | refine frk7 ?_ ?_ | refine frk8 ?_ ?_ | refine frk9 ?_ ?_) <;> intro h <;> try (exfalso; omega)) | with_reducible refine quiet_and ?_ ?_ | with_reducible refine awp_drawnA mixed (by decide +kernel) ?_ | ((fail_if_success with_reducible refine stp ?_); simp -implicitDefEqProofs only [go_sem, Nat.reduceEqDiff, Nat.reduceAdd, Nat.reduceLT, Nat.reduceMul, Nat.reduceSub, Nat.reduceLeDiff, ↓reduceIte, reduceCtorEq, ↓String.reduceEq, String.reduceNe, Int.reduceToNat, Int.reduceLT, Int.reduceLE, Int.reduceGT, Int.reduceGE, Int.reduceEq, Int.reduceNe, Int.reduceBEq, Int.reduceBNe, Int.reduceAdd, Int.reduceSub, Int.reduceMul, Int.reduceNeg,  *]))
      refine ⟨_, Sub.refl _, ?_⟩
      (try rw [t7])
      exact HK.out T v _ H.out.1 H.out.2.1 H.out.2.2.1 H.out.2.2.2.1 H.out.2.2.2.2
end Go.Proofs.Ytmifapnmlhchlaa
