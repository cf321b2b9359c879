/- Those that are sent too late: the document's, the walk. -/
import Derived.Test.YtmifapnmlhchlaaE20
set_option linter.all false
namespace Go.Proofs.Ytmifapnmlhchlaa
open Go Go.Proofs.Ytmifapnmlhchlaa.Ab
open Go.Proofs (Try.prog)
set_option maxRecDepth 100000
theorem st_job (S : List (Wt × Int)) (pre post : List AVal) (i : Nat) (hi : i < S.length) (x : Wt × Int) (hx : S.getD i default = x) : (pre ++ (S.flatMap encSt ++ post)).getD (pre.length + i * 3) .undef = .int .i64 x.1.2 := by
  have h := st_at S pre post i hi x hx
  generalize hL : pre ++ (S.flatMap encSt ++ post) = L at h
  generalize pre.length + i * 3 = a at h
  have key : L.getD (a + 0) .undef = ((L.drop a).take 3).getD 0 .undef := by
    simp [List.getD_eq_getElem?_getD, List.getElem?_take]
  rw [Nat.add_zero] at key
  rw [key, h]; rfl
/-- An empty slice. -/
def Emp (v : AVal) : Prop := v = .nils ∨ (∃ b o c, v = .slice b o 0 c) ∨ v = .list 4 []
/-- The places with a flag. -/
def asc (D : List Bool) (i : Nat) : List Int := ((List.range i).filter fun c => D.getD c false).map fun c : Nat => (c : Int)
theorem asc_step (D : List Bool) (i : Nat) : asc D (i + 1) = asc D i ++ (if D.getD i false = true then [(i : Int)] else []) := by
  unfold asc
  rw [List.range_succ, List.filter_append, List.map_append]
  congr 1
  cases h : D.getD i false
  · simp only [List.filter_cons, h]; rfl
  · simp only [List.filter_cons, h]; rfl
theorem asc_len (D : List Bool) (i : Nat) : (asc D i).length ≤ i := by
  unfold asc
  rw [List.length_map]
  exact Nat.le_trans (List.length_filter_le _ _) (by simp)
theorem asc_srt (D : List Bool) (i : Nat) : (asc D i).Pairwise (· < ·) := by
  unfold asc
  rw [List.pairwise_map]
  refine (List.pairwise_lt_range.sublist List.filter_sublist).imp ?_
  intro a b h
  omega
theorem asc_mem {n : Int} {J : List Jb} {S : List (Wt × Int)} {D : List Bool} {L : Nat} (hD : D.length = L) (hS : S.length = L) (h : Sends n (idxJ J) 0 S) (hL : L = J.length) (hf : Flags S L D) (z : Int) : z ∈ asc D L ↔ ∃ x ∈ S, x.1.2 = z ∧ lateX x = true := by
  unfold asc
  rw [List.mem_map]
  have ht : S.take L = S := List.take_of_length_le (by omega)
  constructor
  · rintro ⟨c, hc, rfl⟩
    obtain ⟨h1, h2⟩ := List.mem_filter.1 hc
    rw [List.mem_range] at h1
    have := (hf c (by omega)).1 h2
    rwa [ht] at this
  · rintro ⟨x, hx, rfl, hl⟩
    obtain ⟨c, hc, hxe⟩ := mem_idx.1 (h.perm.mem_iff.1 (List.mem_map_of_mem hx))
    refine ⟨c, List.mem_filter.2 ⟨List.mem_range.2 (by omega), (hf c (by omega)).2 ⟨x, by rw [ht]; exact hx, by rw [hxe], hl⟩⟩, by rw [hxe]⟩
set_option maxHeartbeats 4000000 in
theorem rlate_spec (G : Nat → AVal) (J : List Jb) (n : Int) (vj : AVal) (m : Heap) (hs : Rd J vj m) (K : AVal → Heap → Prop)
    (hbad : checkF J n ≠ 0 → K (.tuple [.nils, .int .i64 (checkF J n)]) m)
    (hK : checkF J n = 0 → ∀ (S : List (Wt × Int)) (v : AVal) (m' : Heap), Sends n (idxJ J) 0 S → SlM encN 1 (srtI (latesOf S)) v m' → Sub m m' → (∀ c, bOf v = some c → m c = none) → K (.tuple [v, .int .i64 0]) m') :
    CallWP Try.prog G 12 [vj, .int .i64 n] m K := by
  have HB := Hid.mk hbad
  have HK := Hid.mk hK
  have HS := Hid.mk hs
  clear hbad hK hs
  refine callWP_body Try.func12 rfl (N := 67) rfl (rs := [.tmp 4, .tmp 5]) rfl en_12 (of_decide_eq_true rfl) ?_
  repeat' (first | exact tf0 ‹_› | exact tf1 ‹_› | exact False.elim ‹_› | (with_reducible refine Al.intro ?_; intro pb hpb; (try simp only [hupd_none'] at hpb); (repeat rcases hpb with ⟨⟨hpx, hpy⟩, hpb⟩)) | with_reducible refine need ?_ | ((with_reducible first | refine frk0 ?_ ?_ | refine frk1 ?_ ?_ | refine frk2 ?_ ?_ | refine frk3 ?_ ?_ | refine frk4 ?_ ?_ | refine frk5 ?_ ?_ | refine frk6 ?_ ?_ | refine frk7 ?_ ?_ | refine frk8 ?_ ?_ | refine frk9 ?_ ?_) <;> intro h <;> try (exfalso; omega)) | with_reducible refine quiet_and ?_ ?_ | with_reducible refine awp_drawnA mixed (by decide +kernel) ?_ | ((fail_if_success with_reducible refine stp ?_); simp -implicitDefEqProofs only [go_sem, Nat.reduceEqDiff, Nat.reduceAdd, Nat.reduceLT, Nat.reduceMul, Nat.reduceSub, Nat.reduceLeDiff, ↓reduceIte, reduceCtorEq, ↓String.reduceEq, String.reduceNe, Int.reduceToNat, Int.reduceLT, Int.reduceLE, Int.reduceGT, Int.reduceGE, Int.reduceEq, Int.reduceNe, Int.reduceBEq, Int.reduceBNe, Int.reduceAdd, Int.reduceSub, Int.reduceMul, Int.reduceNeg,  *]))
  refine rrun_spec G J n vj m HS.out _ ?_ ?_
  · intro hc
    obtain ⟨e, he⟩ : ∃ e, e = checkF J n := ⟨_, rfl⟩
    rw [← he] at hc ⊢
    have HE := Hid.mk he
    clear he
    repeat' (first | exact tf0 ‹_› | exact tf1 ‹_› | exact False.elim ‹_› | (with_reducible refine Al.intro ?_; intro pb hpb; (try simp only [hupd_none'] at hpb); (repeat rcases hpb with ⟨⟨hpx, hpy⟩, hpb⟩)) | with_reducible refine need ?_ | ((with_reducible first | refine frk0 ?_ ?_ | refine frk1 ?_ ?_ | refine frk2 ?_ ?_ | refine frk3 ?_ ?_ | refine frk4 ?_ ?_ | refine frk5 ?_ ?_ | refine frk6 ?_ ?_ | refine frk7 ?_ ?_ | refine frk8 ?_ ?_ | refine frk9 ?_ ?_) <;> intro h <;> try (exfalso; omega)) | with_reducible refine quiet_and ?_ ?_ | with_reducible refine awp_drawnA mixed (by decide +kernel) ?_ | ((fail_if_success with_reducible refine stp ?_); simp -implicitDefEqProofs only [go_sem, Nat.reduceEqDiff, Nat.reduceAdd, Nat.reduceLT, Nat.reduceMul, Nat.reduceSub, Nat.reduceLeDiff, ↓reduceIte, reduceCtorEq, ↓String.reduceEq, String.reduceNe, Int.reduceToNat, Int.reduceLT, Int.reduceLE, Int.reduceGT, Int.reduceGE, Int.reduceEq, Int.reduceNe, Int.reduceBEq, Int.reduceBNe, Int.reduceAdd, Int.reduceSub, Int.reduceMul, Int.reduceNeg,  *]))
    exact ⟨_, Sub.refl _, by have := HB.out (by rw [← HE.out]; exact hc); rwa [← HE.out] at this⟩
  · intro hc S vo m1 hse hso hsub hfo
    have HR := Hid.mk (And.intro hc (And.intro hse (And.intro hso (And.intro hsub hfo))))
    have hlen : S.length = J.length := by have := hse.perm.length_eq; rw [List.length_map, idxJ_len] at this; exact this
    have HL := Hid.mk (And.intro hlen (checkF_len hc))
    by_cases hJ0 : J = []
    · have hS0 : S = [] := List.eq_nil_of_length_eq_zero (by rw [hlen, hJ0]; rfl)
      have hv1 : Emp vj := by
        rcases HS.out with h | h
        · rcases h.slv with ⟨h, -⟩ | ⟨b, o, c, h⟩
          · exact .inl h
          · exact .inr (.inl ⟨b, o, c, by rw [h, hJ0]; rfl⟩)
        · exact .inr (.inr (by rw [h, hJ0]; rfl))
      have hv2 : Emp vo := by
        rcases hso.slv with ⟨h, -⟩ | ⟨b, o, c, h⟩
        · exact .inl h
        · exact .inr (.inl ⟨b, o, c, by rw [h, hS0]; rfl⟩)
      have HE := Hid.mk (And.intro hJ0 hS0)
      have HM := Hid.mk hsub
      clear hc hse hso hsub hfo hlen hJ0 hS0
      rcases hv1 with rfl | ⟨b1, o1, c1, rfl⟩ | rfl <;> rcases hv2 with rfl | ⟨b2, o2, c2, rfl⟩ | rfl
      all_goals (
        repeat' (first | exact tf0 ‹_› | exact tf1 ‹_› | exact False.elim ‹_› | (with_reducible refine Al.intro ?_; intro pb hpb; (try simp only [hupd_none'] at hpb); (repeat rcases hpb with ⟨⟨hpx, hpy⟩, hpb⟩)) | with_reducible refine need ?_ | ((with_reducible first | refine frk0 ?_ ?_ | refine frk1 ?_ ?_ | refine frk2 ?_ ?_ | refine frk3 ?_ ?_ | refine frk4 ?_ ?_ | refine frk5 ?_ ?_ | refine frk6 ?_ ?_ | refine frk7 ?_ ?_ | refine frk8 ?_ ?_ | refine frk9 ?_ ?_) <;> intro h <;> try (exfalso; omega)) | with_reducible refine quiet_and ?_ ?_ | with_reducible refine awp_drawnA mixed (by decide +kernel) ?_ | ((fail_if_success with_reducible refine stp ?_); simp -implicitDefEqProofs only [go_sem, Nat.reduceEqDiff, Nat.reduceAdd, Nat.reduceLT, Nat.reduceMul, Nat.reduceSub, Nat.reduceLeDiff, ↓reduceIte, reduceCtorEq, ↓String.reduceEq, String.reduceNe, Int.reduceToNat, Int.reduceLT, Int.reduceLE, Int.reduceGT, Int.reduceGE, Int.reduceEq, Int.reduceNe, Int.reduceBEq, Int.reduceBNe, Int.reduceAdd, Int.reduceSub, Int.reduceMul, Int.reduceNeg,  *]))
        refine awp_loopP 0 (fun ts m' => Emp (ts 0) ∧ Hid (Sub m m')) (fun k ts m' => Emp (ts 0) ∧ Emp (ts 6) ∧ ts 9 = .int .i64 0 ∧ Hid (Sub m m')) 0 ⟨by first | exact .inl (ttt) | exact .inr (.inl ⟨_, _, _, ttt⟩) | exact .inr (.inr (ttt)), by first | exact .inl (ttt) | exact .inr (.inl ⟨_, _, _, ttt⟩) | exact .inr (.inr (ttt)), ttt, .mk (subTrans HM.out (Sub.fresh (Sub.refl _) hpb))⟩ ?_ ?_
        · rintro k ts m2 ⟨e0, e6, t9, hs⟩
          rcases e0 with t0 | ⟨b3, o3, c3, t0⟩ | t0 <;> rcases e6 with t6 | ⟨b4, o4, c4, t6⟩ | t6
          all_goals (
            repeat' (first | exact tf0 ‹_› | exact tf1 ‹_› | exact False.elim ‹_› | (with_reducible refine Al.intro ?_; intro pb hpb; (try simp only [hupd_none'] at hpb); (repeat rcases hpb with ⟨⟨hpx, hpy⟩, hpb⟩)) | with_reducible refine need ?_ | ((with_reducible first | refine frk0 ?_ ?_ | refine frk1 ?_ ?_ | refine frk2 ?_ ?_ | refine frk3 ?_ ?_ | refine frk4 ?_ ?_ | refine frk5 ?_ ?_ | refine frk6 ?_ ?_ | refine frk7 ?_ ?_ | refine frk8 ?_ ?_ | refine frk9 ?_ ?_) <;> intro h <;> try (exfalso; omega)) | with_reducible refine quiet_and ?_ ?_ | with_reducible refine awp_drawnA mixed (by decide +kernel) ?_ | ((fail_if_success with_reducible refine stp ?_); simp -implicitDefEqProofs only [go_sem, Nat.reduceEqDiff, Nat.reduceAdd, Nat.reduceLT, Nat.reduceMul, Nat.reduceSub, Nat.reduceLeDiff, ↓reduceIte, reduceCtorEq, ↓String.reduceEq, String.reduceNe, Int.reduceToNat, Int.reduceLT, Int.reduceLE, Int.reduceGT, Int.reduceGE, Int.reduceEq, Int.reduceNe, Int.reduceBEq, Int.reduceBNe, Int.reduceAdd, Int.reduceSub, Int.reduceMul, Int.reduceNeg,  *]))
            exact Again.intro ⟨by first | exact .inl ((by first | (simp only [upd, put, Nat.reduceEqDiff, ↓reduceIte, t0]; done) | (simp [upd, put, t0]; done) | rfl | (simp [upd, put, t0]; rfl))) | exact .inr (.inl ⟨b3, o3, c3, (by first | (simp only [upd, put, Nat.reduceEqDiff, ↓reduceIte, t0]; done) | (simp [upd, put, t0]; done) | rfl | (simp [upd, put, t0]; rfl))⟩) | exact .inr (.inr ((by first | (simp only [upd, put, Nat.reduceEqDiff, ↓reduceIte, t0]; done) | (simp [upd, put, t0]; done) | rfl | (simp [upd, put, t0]; rfl)))), hs⟩)
        · rintro ts m2 ⟨e0, hs⟩
          repeat' (first | exact tf0 ‹_› | exact tf1 ‹_› | exact False.elim ‹_› | (with_reducible refine Al.intro ?_; intro pb hpb; (try simp only [hupd_none'] at hpb); (repeat rcases hpb with ⟨⟨hpx, hpy⟩, hpb⟩)) | with_reducible refine need ?_ | ((with_reducible first | refine frk0 ?_ ?_ | refine frk1 ?_ ?_ | refine frk2 ?_ ?_ | refine frk3 ?_ ?_ | refine frk4 ?_ ?_ | refine frk5 ?_ ?_ | refine frk6 ?_ ?_ | refine frk7 ?_ ?_ | refine frk8 ?_ ?_ | refine frk9 ?_ ?_) <;> intro h <;> try (exfalso; omega)) | with_reducible refine quiet_and ?_ ?_ | with_reducible refine awp_drawnA mixed (by decide +kernel) ?_ | ((fail_if_success with_reducible refine stp ?_); simp -implicitDefEqProofs only [go_sem, Nat.reduceEqDiff, Nat.reduceAdd, Nat.reduceLT, Nat.reduceMul, Nat.reduceSub, Nat.reduceLeDiff, ↓reduceIte, reduceCtorEq, ↓String.reduceEq, String.reduceNe, Int.reduceToNat, Int.reduceLT, Int.reduceLE, Int.reduceGT, Int.reduceGE, Int.reduceEq, Int.reduceNe, Int.reduceBEq, Int.reduceBNe, Int.reduceAdd, Int.reduceSub, Int.reduceMul, Int.reduceNeg,  *]))
          refine awp_loopP 2 (fun ts m3 => ts 10 = .nils ∧ Hid (Sub m m3)) (fun k ts m3 => Emp (ts 0) ∧ ts 10 = .nils ∧ ts 11 = .int .i64 0 ∧ Hid (Sub m m3)) 0 ⟨by rcases e0 with t0 | ⟨b3, o3, c3, t0⟩ | t0 <;> first | exact .inl ((by first | (simp only [upd, put, Nat.reduceEqDiff, ↓reduceIte, t0]; done) | (simp [upd, put, t0]; done) | rfl | (simp [upd, put, t0]; rfl))) | exact .inr (.inl ⟨b3, o3, c3, (by first | (simp only [upd, put, Nat.reduceEqDiff, ↓reduceIte, t0]; done) | (simp [upd, put, t0]; done) | rfl | (simp [upd, put, t0]; rfl))⟩) | exact .inr (.inr ((by first | (simp only [upd, put, Nat.reduceEqDiff, ↓reduceIte, t0]; done) | (simp [upd, put, t0]; done) | rfl | (simp [upd, put, t0]; rfl)))), ttt, ttt, hs⟩ ?_ ?_
          · clear e0 hs
            rintro k ts m3 ⟨e0, t10, t11, hs⟩
            rcases e0 with t0 | ⟨b3, o3, c3, t0⟩ | t0
            all_goals (
              repeat' (first | exact tf0 ‹_› | exact tf1 ‹_› | exact False.elim ‹_› | (with_reducible refine Al.intro ?_; intro pb hpb; (try simp only [hupd_none'] at hpb); (repeat rcases hpb with ⟨⟨hpx, hpy⟩, hpb⟩)) | with_reducible refine need ?_ | ((with_reducible first | refine frk0 ?_ ?_ | refine frk1 ?_ ?_ | refine frk2 ?_ ?_ | refine frk3 ?_ ?_ | refine frk4 ?_ ?_ | refine frk5 ?_ ?_ | refine frk6 ?_ ?_ | refine frk7 ?_ ?_ | refine frk8 ?_ ?_ | refine frk9 ?_ ?_) <;> intro h <;> try (exfalso; omega)) | with_reducible refine quiet_and ?_ ?_ | with_reducible refine awp_drawnA mixed (by decide +kernel) ?_ | ((fail_if_success with_reducible refine stp ?_); simp -implicitDefEqProofs only [go_sem, Nat.reduceEqDiff, Nat.reduceAdd, Nat.reduceLT, Nat.reduceMul, Nat.reduceSub, Nat.reduceLeDiff, ↓reduceIte, reduceCtorEq, ↓String.reduceEq, String.reduceNe, Int.reduceToNat, Int.reduceLT, Int.reduceLE, Int.reduceGT, Int.reduceGE, Int.reduceEq, Int.reduceNe, Int.reduceBEq, Int.reduceBNe, Int.reduceAdd, Int.reduceSub, Int.reduceMul, Int.reduceNeg,  *]))
              exact Again.intro ⟨(by first | (simp only [upd, put, Nat.reduceEqDiff, ↓reduceIte, t10]; done) | (simp [upd, put, t10]; done) | rfl | (simp [upd, put, t10]; rfl)), hs⟩)
          · rintro ts m3 ⟨t10, hs⟩
            repeat' (first | exact tf0 ‹_› | exact tf1 ‹_› | exact False.elim ‹_› | (with_reducible refine Al.intro ?_; intro pb hpb; (try simp only [hupd_none'] at hpb); (repeat rcases hpb with ⟨⟨hpx, hpy⟩, hpb⟩)) | with_reducible refine need ?_ | ((with_reducible first | refine frk0 ?_ ?_ | refine frk1 ?_ ?_ | refine frk2 ?_ ?_ | refine frk3 ?_ ?_ | refine frk4 ?_ ?_ | refine frk5 ?_ ?_ | refine frk6 ?_ ?_ | refine frk7 ?_ ?_ | refine frk8 ?_ ?_ | refine frk9 ?_ ?_) <;> intro h <;> try (exfalso; omega)) | with_reducible refine quiet_and ?_ ?_ | with_reducible refine awp_drawnA mixed (by decide +kernel) ?_ | ((fail_if_success with_reducible refine stp ?_); simp -implicitDefEqProofs only [go_sem, Nat.reduceEqDiff, Nat.reduceAdd, Nat.reduceLT, Nat.reduceMul, Nat.reduceSub, Nat.reduceLeDiff, ↓reduceIte, reduceCtorEq, ↓String.reduceEq, String.reduceNe, Int.reduceToNat, Int.reduceLT, Int.reduceLE, Int.reduceGT, Int.reduceGE, Int.reduceEq, Int.reduceNe, Int.reduceBEq, Int.reduceBNe, Int.reduceAdd, Int.reduceSub, Int.reduceMul, Int.reduceNeg,  *]))
            refine ⟨_, Sub.refl _, ?_⟩
            (try rw [t10])
            obtain ⟨r1, r2, r3, r4, r5⟩ := HR.out
            exact HK.out r1 S .nils _ r2 (.inl ⟨rfl, by rw [HE.out.2]; simp [srtI, latesOf]⟩) hs.out (by simp [bOf]))
    · have hjw : (∃ bj prej postj Nj capj, m bj = some (.cells (prej ++ (J.flatMap encJc ++ postj)) Nj) ∧ vj = .slice bj prej.length J.length capj) ∨ vj = .list 4 (J.map encJ) := by
        rcases HS.out with h | h
        · obtain ⟨bj, prej, postj, Nj, capj, hj, hvj, -, -⟩ := h.at' (List.length_pos_iff.2 hJ0)
          exact .inl ⟨bj, prej, postj, Nj, capj, hj, hvj⟩
        · exact .inr h
      rcases hjw with ⟨bj, prej, postj, Nj, capj, hj, hvj⟩ | hvj
      · obtain ⟨b, pre, post, N, cap, hb, hvo, -, -⟩ := hso.at' (by rw [hlen]; exact List.length_pos_iff.2 hJ0)
        obtain ⟨L, hL⟩ : ∃ L, L = J.length := ⟨_, rfl⟩
        rw [hlen] at hvo
        rw [← hL] at hvo hvj
        have H0 := Hid.mk hL
        have hj1 := hsub _ _ hj
        have hL256 : L ≤ 256 := by have := checkF_len hc; omega
        subst hvj hvo
        clear hc hse hso hsub hfo hlen hJ0 hL hj
        repeat' (first | exact tf0 ‹_› | exact tf1 ‹_› | exact False.elim ‹_› | (with_reducible refine Al.intro ?_; intro pb hpb; (try simp only [hupd_none'] at hpb); (repeat rcases hpb with ⟨⟨hpx, hpy⟩, hpb⟩)) | with_reducible refine need ?_ | ((with_reducible first | refine frk0 ?_ ?_ | refine frk1 ?_ ?_ | refine frk2 ?_ ?_ | refine frk3 ?_ ?_ | refine frk4 ?_ ?_ | refine frk5 ?_ ?_ | refine frk6 ?_ ?_ | refine frk7 ?_ ?_ | refine frk8 ?_ ?_ | refine frk9 ?_ ?_) <;> intro h <;> try (exfalso; omega)) | with_reducible refine quiet_and ?_ ?_ | with_reducible refine awp_drawnA mixed (by decide +kernel) ?_ | ((fail_if_success with_reducible refine stp ?_); simp -implicitDefEqProofs only [go_sem, Nat.reduceEqDiff, Nat.reduceAdd, Nat.reduceLT, Nat.reduceMul, Nat.reduceSub, Nat.reduceLeDiff, ↓reduceIte, reduceCtorEq, ↓String.reduceEq, String.reduceNe, Int.reduceToNat, Int.reduceLT, Int.reduceLE, Int.reduceGT, Int.reduceGE, Int.reduceEq, Int.reduceNe, Int.reduceBEq, Int.reduceBNe, Int.reduceAdd, Int.reduceSub, Int.reduceMul, Int.reduceNeg,  *]))
        have HP := Hid.mk hpb
        obtain ⟨pd, epd⟩ : ∃ pd, pd = pb := ⟨_, rfl⟩
        rw [rowT_rep]
        have nl := neL hb pb hpb
        have nr := neR hb pb hpb
        have nl2 := neL hj1 pb hpb
        have nr2 := neR hj1 pb hpb
        clear hpb
        subst epd
        refine awp_loopP 0 (fun ts m2 => ∃ D : List Bool, Hid (D.length = L ∧ Flags S L D) ∧ ts 0 = .slice bj prej.length L capj ∧ ts 8 = .slice pd 0 L L ∧ m2 = hupd m1 pd (rowT D L))
          (fun k ts m2 => ∃ (D : List Bool) (i : Nat), Hid (k = L - i ∧ i ≤ L ∧ D.length = L ∧ Flags S i D) ∧ ts 0 = .slice bj prej.length L capj ∧ ts 6 = .slice b pre.length L cap ∧ ts 8 = .slice pd 0 L L ∧ ts 9 = .int .i64 (i : Nat) ∧ m2 = hupd m1 pd (rowT D L)) L
          ⟨List.replicate L false, 0, .mk ⟨rfl, Nat.zero_le _, List.length_replicate, fun c hc => by simp only [List.getD_eq_getElem?_getD, List.getElem?_replicate, List.take_zero]; split <;> simp⟩, ttt, ttt, ttt, ttt, rfl⟩ ?_ ?_
        · rintro k ts m2 ⟨D, i, H, t0, t6, t8, t9, hm2⟩
          subst m2
          by_cases hi : i < L
          · have lt : (i : Int) < (L : Int) := by omega
            have hiS : i < S.length := by have := HL.out; have := H0.out; omega
            obtain ⟨x, hx⟩ : ∃ x, S.getD i default = x := ⟨_, rfl⟩
            have hxm : x.1 ∈ idxJ J := HR.out.2.1.perm.mem_iff.1 (List.mem_map_of_mem (by rw [← hx]; exact getD_mem S i hiS))
            obtain ⟨c, hc, hxe⟩ := mem_idx.1 hxm
            obtain ⟨⟨y, at_⟩, t⟩ := x
            injection hxe with he1 he2
            subst he2
            have hcD : c < D.length := by have := H.out; have := H0.out; omega
            have g0 := st_job S pre post i hiS _ hx
            obtain ⟨-, g1⟩ := st_cells S pre post i hiS _ hx
            have l1 := st_len S pre post i hiS
            have g2 := j_due J prej postj c hc y he1.symm
            have l2 := j_len J prej postj c hc
            have s1 := rowT_set D c (decide (y.2.2.1 < t + y.2.2.2)) hcD
            have l3 := rowT_len D
            have l4 : c < (D.flatMap encB).length := by omega
            have lc : (c : Int) < (L : Int) := by have := H0.out; omega
            have w1 : IntKind.i64.wrap ((i : Int) + 1) = ((i + 1 : Nat) : Int) := by rw [wrap_i64 (by omega) (by omega)]; omega
            have hfl := H.out.2.2.2.step (sent_nodup HR.out.2.1) hiS hx rfl hcD
            have HF := Hid.mk hfl
            clear hx hxm hiS hc he1 hcD l3 hfl
            repeat' (first | exact tf0 ‹_› | exact tf1 ‹_› | exact False.elim ‹_› | (with_reducible refine Al.intro ?_; intro pb hpb; (try simp only [hupd_none'] at hpb); (repeat rcases hpb with ⟨⟨hpx, hpy⟩, hpb⟩)) | with_reducible refine need ?_ | ((with_reducible first | refine frk0 ?_ ?_ | refine frk1 ?_ ?_ | refine frk2 ?_ ?_ | refine frk3 ?_ ?_ | refine frk4 ?_ ?_ | refine frk5 ?_ ?_ | refine frk6 ?_ ?_ | refine frk7 ?_ ?_ | refine frk8 ?_ ?_ | refine frk9 ?_ ?_) <;> intro h <;> try (exfalso; omega)) | with_reducible refine quiet_and ?_ ?_ | with_reducible refine awp_drawnA mixed (by decide +kernel) ?_ | ((fail_if_success with_reducible refine stp ?_); simp -implicitDefEqProofs only [go_sem, Nat.reduceEqDiff, Nat.reduceAdd, Nat.reduceLT, Nat.reduceMul, Nat.reduceSub, Nat.reduceLeDiff, ↓reduceIte, reduceCtorEq, ↓String.reduceEq, String.reduceNe, Int.reduceToNat, Int.reduceLT, Int.reduceLE, Int.reduceGT, Int.reduceGE, Int.reduceEq, Int.reduceNe, Int.reduceBEq, Int.reduceBNe, Int.reduceAdd, Int.reduceSub, Int.reduceMul, Int.reduceNeg,  rowT, *]))
            exact Again.intro ⟨L - (i + 1), by have := H.out; omega, _, Sub.refl _, D.set c (decide (y.2.2.1 < t + y.2.2.2)), i + 1, .mk ⟨rfl, by omega, by rw [List.length_set]; exact H.out.2.2.1, HF.out⟩, (by first | (simp only [upd, put, Nat.reduceEqDiff, ↓reduceIte, t0]; done) | (simp [upd, put, t0]; done) | rfl | (simp [upd, put, t0]; rfl)), (by first | (simp only [upd, put, Nat.reduceEqDiff, ↓reduceIte, t6]; done) | (simp [upd, put, t6]; done) | rfl | (simp [upd, put, t6]; rfl)), (by first | (simp only [upd, put, Nat.reduceEqDiff, ↓reduceIte, t8]; done) | (simp [upd, put, t8]; done) | rfl | (simp [upd, put, t8]; rfl)), ttt, by first | rfl | (simp only [rowT, hupd_hupd])⟩
          · have lt : ¬ (i : Int) < (L : Int) := by omega
            repeat' (first | exact tf0 ‹_› | exact tf1 ‹_› | exact False.elim ‹_› | (with_reducible refine Al.intro ?_; intro pb hpb; (try simp only [hupd_none'] at hpb); (repeat rcases hpb with ⟨⟨hpx, hpy⟩, hpb⟩)) | with_reducible refine need ?_ | ((with_reducible first | refine frk0 ?_ ?_ | refine frk1 ?_ ?_ | refine frk2 ?_ ?_ | refine frk3 ?_ ?_ | refine frk4 ?_ ?_ | refine frk5 ?_ ?_ | refine frk6 ?_ ?_ | refine frk7 ?_ ?_ | refine frk8 ?_ ?_ | refine frk9 ?_ ?_) <;> intro h <;> try (exfalso; omega)) | with_reducible refine quiet_and ?_ ?_ | with_reducible refine awp_drawnA mixed (by decide +kernel) ?_ | ((fail_if_success with_reducible refine stp ?_); simp -implicitDefEqProofs only [go_sem, Nat.reduceEqDiff, Nat.reduceAdd, Nat.reduceLT, Nat.reduceMul, Nat.reduceSub, Nat.reduceLeDiff, ↓reduceIte, reduceCtorEq, ↓String.reduceEq, String.reduceNe, Int.reduceToNat, Int.reduceLT, Int.reduceLE, Int.reduceGT, Int.reduceGE, Int.reduceEq, Int.reduceNe, Int.reduceBEq, Int.reduceBNe, Int.reduceAdd, Int.reduceSub, Int.reduceMul, Int.reduceNeg,  *]))
            exact Again.intro ⟨D, .mk ⟨H.out.2.2.1, by have h := H.out.2.2.2; rwa [show i = L by have := H.out; omega] at h⟩, (by first | (simp only [upd, put, Nat.reduceEqDiff, ↓reduceIte, t0]; done) | (simp [upd, put, t0]; done) | rfl | (simp [upd, put, t0]; rfl)), (by first | (simp only [upd, put, Nat.reduceEqDiff, ↓reduceIte, t8]; done) | (simp [upd, put, t8]; done) | rfl | (simp [upd, put, t8]; rfl)), rfl⟩
        · rintro ts m2 ⟨D, H, t0, t8, hm2⟩
          obtain ⟨M, hM⟩ : ∃ M, M = hupd m1 pd (rowT D L) := ⟨_, rfl⟩
          rw [← hM] at hm2
          subst hm2
          have hrowM : m2 pd = some (rowT D L) := by rw [hM, hupd_at, if_pos rfl]
          have HM : Hid (Sub m m2) := .mk (subTrans HR.out.2.2.2.1 (by rw [hM]; exact Sub.fresh (Sub.refl _) HP.out))
          clear hM
          repeat' (first | exact tf0 ‹_› | exact tf1 ‹_› | exact False.elim ‹_› | (with_reducible refine Al.intro ?_; intro pb hpb; (try simp only [hupd_none'] at hpb); (repeat rcases hpb with ⟨⟨hpx, hpy⟩, hpb⟩)) | with_reducible refine need ?_ | ((with_reducible first | refine frk0 ?_ ?_ | refine frk1 ?_ ?_ | refine frk2 ?_ ?_ | refine frk3 ?_ ?_ | refine frk4 ?_ ?_ | refine frk5 ?_ ?_ | refine frk6 ?_ ?_ | refine frk7 ?_ ?_ | refine frk8 ?_ ?_ | refine frk9 ?_ ?_) <;> intro h <;> try (exfalso; omega)) | with_reducible refine quiet_and ?_ ?_ | with_reducible refine awp_drawnA mixed (by decide +kernel) ?_ | ((fail_if_success with_reducible refine stp ?_); simp -implicitDefEqProofs only [go_sem, Nat.reduceEqDiff, Nat.reduceAdd, Nat.reduceLT, Nat.reduceMul, Nat.reduceSub, Nat.reduceLeDiff, ↓reduceIte, reduceCtorEq, ↓String.reduceEq, String.reduceNe, Int.reduceToNat, Int.reduceLT, Int.reduceLE, Int.reduceGT, Int.reduceGE, Int.reduceEq, Int.reduceNe, Int.reduceBEq, Int.reduceBNe, Int.reduceAdd, Int.reduceSub, Int.reduceMul, Int.reduceNeg,  *]))
          refine awp_loopP 2 (fun ts m3 => ∃ v : AVal, Hid (SlM encN 1 (asc D L) v m3 ∧ Sub m m3 ∧ ∀ x, bOf v = some x → m x = none) ∧ ts 10 = v)
            (fun k ts m3 => ∃ (v : AVal) (i : Nat), Hid (k = L - i ∧ i ≤ L ∧ SlM encN 1 (asc D i) v m3 ∧ Sub m2 m3 ∧ ∀ x, bOf v = some x → m2 x = none) ∧ ts 0 = .slice bj prej.length L capj ∧ ts 8 = .slice pd 0 L L ∧ ts 10 = v ∧ ts 11 = .int .i64 (i : Nat)) L
            ⟨.nils, 0, .mk ⟨rfl, Nat.zero_le _, .inl ⟨rfl, rfl⟩, Sub.refl _, by simp [bOf]⟩, (by first | (simp only [upd, put, Nat.reduceEqDiff, ↓reduceIte, t0]; done) | (simp [upd, put, t0]; done) | rfl | (simp [upd, put, t0]; rfl)), (by first | (simp only [upd, put, Nat.reduceEqDiff, ↓reduceIte, t8]; done) | (simp [upd, put, t8]; done) | rfl | (simp [upd, put, t8]; rfl)), ttt, ttt⟩ ?_ ?_
          · clear t0 t8
            rintro k ts m3 ⟨v, i, I, t0, t8, t10, t11⟩
            by_cases hi : i < L
            · have lt : (i : Int) < (L : Int) := by omega
              have hiD : i < D.length := by have := H.out; omega
              have hrow3 := I.out.2.2.2.1 _ _ hrowM
              have l1 := rowT_len D
              have l3 : i < (D.flatMap encB).length := by omega
              have w1 : IntKind.i64.wrap ((i : Int) + 1) = ((i + 1 : Nat) : Int) := by rw [wrap_i64 (by omega) (by omega)]; omega
              have nl3 := neL hrow3
              have nr3 := neR hrow3
              have hasc := asc_step D i
              cases hq : D.getD i false with
              | true =>
                have g2 := rowT_at D i hiD true hq
                rw [hq, if_pos rfl] at hasc
                have HA := Hid.mk hasc
                clear hq hasc l1 hiD
                repeat' (first | exact tf0 ‹_› | exact tf1 ‹_› | exact False.elim ‹_› | (with_reducible refine Al.intro ?_; intro pb hpb; (try simp only [hupd_none'] at hpb); (repeat rcases hpb with ⟨⟨hpx, hpy⟩, hpb⟩)) | with_reducible refine need ?_ | ((with_reducible first | refine frk0 ?_ ?_ | refine frk1 ?_ ?_ | refine frk2 ?_ ?_ | refine frk3 ?_ ?_ | refine frk4 ?_ ?_ | refine frk5 ?_ ?_ | refine frk6 ?_ ?_ | refine frk7 ?_ ?_ | refine frk8 ?_ ?_ | refine frk9 ?_ ?_) <;> intro h <;> try (exfalso; omega)) | with_reducible refine quiet_and ?_ ?_ | with_reducible refine awp_drawnA mixed (by decide +kernel) ?_ | ((fail_if_success with_reducible refine stp ?_); simp -implicitDefEqProofs only [go_sem, Nat.reduceEqDiff, Nat.reduceAdd, Nat.reduceLT, Nat.reduceMul, Nat.reduceSub, Nat.reduceLeDiff, ↓reduceIte, reduceCtorEq, ↓String.reduceEq, String.reduceNe, Int.reduceToNat, Int.reduceLT, Int.reduceLE, Int.reduceGT, Int.reduceGE, Int.reduceEq, Int.reduceNe, Int.reduceBEq, Int.reduceBNe, Int.reduceAdd, Int.reduceSub, Int.reduceMul, Int.reduceNeg,  rowT, *]))
                refine app1 (enc := encN) (sz := 1) (C := asc D i) (x := (i : Int)) Try.underlying31 tk_3 eb_3 zl_3 (by decide) (by rw [Try.underlying31]; rfl) (by unfold isInt; rw [Try.underlying31]) encN_len rfl ⟨1, by rw [hupd_at, if_pos rfl]⟩ (I.out.2.2.1.fresh hpb) (by have := asc_len D i; omega) (fun v2 m6 h1 h2 => ?_)
                obtain ⟨k1, k2⟩ := h2.sub (mb := m2) (subTrans I.out.2.2.2.1 (Sub.fresh (Sub.refl _) hpb)) I.out.2.2.2.2
                have HN := Hid.mk (And.intro h1 (And.intro k1 k2))
                clear h1 h2 k1 k2
                repeat' (first | exact tf0 ‹_› | exact tf1 ‹_› | exact False.elim ‹_› | (with_reducible refine Al.intro ?_; intro pb hpb; (try simp only [hupd_none'] at hpb); (repeat rcases hpb with ⟨⟨hpx, hpy⟩, hpb⟩)) | with_reducible refine need ?_ | ((with_reducible first | refine frk0 ?_ ?_ | refine frk1 ?_ ?_ | refine frk2 ?_ ?_ | refine frk3 ?_ ?_ | refine frk4 ?_ ?_ | refine frk5 ?_ ?_ | refine frk6 ?_ ?_ | refine frk7 ?_ ?_ | refine frk8 ?_ ?_ | refine frk9 ?_ ?_) <;> intro h <;> try (exfalso; omega)) | with_reducible refine quiet_and ?_ ?_ | with_reducible refine awp_drawnA mixed (by decide +kernel) ?_ | ((fail_if_success with_reducible refine stp ?_); simp -implicitDefEqProofs only [go_sem, Nat.reduceEqDiff, Nat.reduceAdd, Nat.reduceLT, Nat.reduceMul, Nat.reduceSub, Nat.reduceLeDiff, ↓reduceIte, reduceCtorEq, ↓String.reduceEq, String.reduceNe, Int.reduceToNat, Int.reduceLT, Int.reduceLE, Int.reduceGT, Int.reduceGE, Int.reduceEq, Int.reduceNe, Int.reduceBEq, Int.reduceBNe, Int.reduceAdd, Int.reduceSub, Int.reduceMul, Int.reduceNeg,  *]))
                exact Again.intro ⟨L - (i + 1), by have := I.out; omega, _, Sub.refl _, v2, i + 1, .mk ⟨rfl, by omega, by rw [HA.out]; exact HN.out.1, HN.out.2.1, HN.out.2.2⟩, (by first | (simp only [upd, put, Nat.reduceEqDiff, ↓reduceIte, t0]; done) | (simp [upd, put, t0]; done) | rfl | (simp [upd, put, t0]; rfl)), (by first | (simp only [upd, put, Nat.reduceEqDiff, ↓reduceIte, t8]; done) | (simp [upd, put, t8]; done) | rfl | (simp [upd, put, t8]; rfl)), ttt, ttt⟩
              | false =>
                have g2 := rowT_at D i hiD false hq
                rw [hq, if_neg (by simp), List.append_nil] at hasc
                have HA := Hid.mk hasc
                clear hq hasc l1 hiD
                repeat' (first | exact tf0 ‹_› | exact tf1 ‹_› | exact False.elim ‹_› | (with_reducible refine Al.intro ?_; intro pb hpb; (try simp only [hupd_none'] at hpb); (repeat rcases hpb with ⟨⟨hpx, hpy⟩, hpb⟩)) | with_reducible refine need ?_ | ((with_reducible first | refine frk0 ?_ ?_ | refine frk1 ?_ ?_ | refine frk2 ?_ ?_ | refine frk3 ?_ ?_ | refine frk4 ?_ ?_ | refine frk5 ?_ ?_ | refine frk6 ?_ ?_ | refine frk7 ?_ ?_ | refine frk8 ?_ ?_ | refine frk9 ?_ ?_) <;> intro h <;> try (exfalso; omega)) | with_reducible refine quiet_and ?_ ?_ | with_reducible refine awp_drawnA mixed (by decide +kernel) ?_ | ((fail_if_success with_reducible refine stp ?_); simp -implicitDefEqProofs only [go_sem, Nat.reduceEqDiff, Nat.reduceAdd, Nat.reduceLT, Nat.reduceMul, Nat.reduceSub, Nat.reduceLeDiff, ↓reduceIte, reduceCtorEq, ↓String.reduceEq, String.reduceNe, Int.reduceToNat, Int.reduceLT, Int.reduceLE, Int.reduceGT, Int.reduceGE, Int.reduceEq, Int.reduceNe, Int.reduceBEq, Int.reduceBNe, Int.reduceAdd, Int.reduceSub, Int.reduceMul, Int.reduceNeg,  rowT, *]))
                exact Again.intro ⟨L - (i + 1), by have := I.out; omega, _, Sub.refl _, v, i + 1, .mk ⟨rfl, by omega, by rw [HA.out]; exact I.out.2.2.1, I.out.2.2.2.1, I.out.2.2.2.2⟩, (by first | (simp only [upd, put, Nat.reduceEqDiff, ↓reduceIte, t0]; done) | (simp [upd, put, t0]; done) | rfl | (simp [upd, put, t0]; rfl)), (by first | (simp only [upd, put, Nat.reduceEqDiff, ↓reduceIte, t8]; done) | (simp [upd, put, t8]; done) | rfl | (simp [upd, put, t8]; rfl)), (by first | (simp only [upd, put, Nat.reduceEqDiff, ↓reduceIte, t10]; done) | (simp [upd, put, t10]; done) | rfl | (simp [upd, put, t10]; rfl)), ttt⟩
            · have lt : ¬ (i : Int) < (L : Int) := by omega
              repeat' (first | exact tf0 ‹_› | exact tf1 ‹_› | exact False.elim ‹_› | (with_reducible refine Al.intro ?_; intro pb hpb; (try simp only [hupd_none'] at hpb); (repeat rcases hpb with ⟨⟨hpx, hpy⟩, hpb⟩)) | with_reducible refine need ?_ | ((with_reducible first | refine frk0 ?_ ?_ | refine frk1 ?_ ?_ | refine frk2 ?_ ?_ | refine frk3 ?_ ?_ | refine frk4 ?_ ?_ | refine frk5 ?_ ?_ | refine frk6 ?_ ?_ | refine frk7 ?_ ?_ | refine frk8 ?_ ?_ | refine frk9 ?_ ?_) <;> intro h <;> try (exfalso; omega)) | with_reducible refine quiet_and ?_ ?_ | with_reducible refine awp_drawnA mixed (by decide +kernel) ?_ | ((fail_if_success with_reducible refine stp ?_); simp -implicitDefEqProofs only [go_sem, Nat.reduceEqDiff, Nat.reduceAdd, Nat.reduceLT, Nat.reduceMul, Nat.reduceSub, Nat.reduceLeDiff, ↓reduceIte, reduceCtorEq, ↓String.reduceEq, String.reduceNe, Int.reduceToNat, Int.reduceLT, Int.reduceLE, Int.reduceGT, Int.reduceGE, Int.reduceEq, Int.reduceNe, Int.reduceBEq, Int.reduceBNe, Int.reduceAdd, Int.reduceSub, Int.reduceMul, Int.reduceNeg,  *]))
              exact Again.intro ⟨v, .mk ⟨by have h := I.out.2.2.1; rwa [show i = L by have := I.out; omega] at h, subTrans HM.out I.out.2.2.2.1, fun x hx => HM.out.gone (I.out.2.2.2.2 x hx)⟩, (by first | (simp only [upd, put, Nat.reduceEqDiff, ↓reduceIte, t10]; done) | (simp [upd, put, t10]; done) | rfl | (simp [upd, put, t10]; rfl))⟩
          · rintro ts m3 ⟨v, I, t10⟩
            repeat' (first | exact tf0 ‹_› | exact tf1 ‹_› | exact False.elim ‹_› | (with_reducible refine Al.intro ?_; intro pb hpb; (try simp only [hupd_none'] at hpb); (repeat rcases hpb with ⟨⟨hpx, hpy⟩, hpb⟩)) | with_reducible refine need ?_ | ((with_reducible first | refine frk0 ?_ ?_ | refine frk1 ?_ ?_ | refine frk2 ?_ ?_ | refine frk3 ?_ ?_ | refine frk4 ?_ ?_ | refine frk5 ?_ ?_ | refine frk6 ?_ ?_ | refine frk7 ?_ ?_ | refine frk8 ?_ ?_ | refine frk9 ?_ ?_) <;> intro h <;> try (exfalso; omega)) | with_reducible refine quiet_and ?_ ?_ | with_reducible refine awp_drawnA mixed (by decide +kernel) ?_ | ((fail_if_success with_reducible refine stp ?_); simp -implicitDefEqProofs only [go_sem, Nat.reduceEqDiff, Nat.reduceAdd, Nat.reduceLT, Nat.reduceMul, Nat.reduceSub, Nat.reduceLeDiff, ↓reduceIte, reduceCtorEq, ↓String.reduceEq, String.reduceNe, Int.reduceToNat, Int.reduceLT, Int.reduceLE, Int.reduceGT, Int.reduceGE, Int.reduceEq, Int.reduceNe, Int.reduceBEq, Int.reduceBNe, Int.reduceAdd, Int.reduceSub, Int.reduceMul, Int.reduceNeg,  *]))
            refine ⟨_, Sub.refl _, ?_⟩
            (try rw [t10])
            obtain ⟨r1, r2, r3, r4, r5⟩ := HR.out
            refine HK.out r1 S v _ r2 ?_ I.out.2.1 I.out.2.2
            rw [← lates_eq r2 (asc_srt D L) (fun z => asc_mem H.out.1 (by have := HL.out; have := H0.out; omega) r2 H0.out H.out.2 z)]
            exact I.out.1
      · obtain ⟨b, pre, post, N, cap, hb, hvo, -, -⟩ := hso.at' (by rw [hlen]; exact List.length_pos_iff.2 hJ0)
        obtain ⟨L, hL⟩ : ∃ L, L = J.length := ⟨_, rfl⟩
        rw [hlen] at hvo
        rw [← hL] at hvo
        have ll : (J.map encJ).length = L := by rw [List.length_map]; exact hL.symm
        have H0 := Hid.mk hL
        have hL256 : L ≤ 256 := by have := checkF_len hc; omega
        subst hvj hvo
        clear hc hse hso hsub hfo hlen hJ0 hL
        repeat' (first | exact tf0 ‹_› | exact tf1 ‹_› | exact False.elim ‹_› | (with_reducible refine Al.intro ?_; intro pb hpb; (try simp only [hupd_none'] at hpb); (repeat rcases hpb with ⟨⟨hpx, hpy⟩, hpb⟩)) | with_reducible refine need ?_ | ((with_reducible first | refine frk0 ?_ ?_ | refine frk1 ?_ ?_ | refine frk2 ?_ ?_ | refine frk3 ?_ ?_ | refine frk4 ?_ ?_ | refine frk5 ?_ ?_ | refine frk6 ?_ ?_ | refine frk7 ?_ ?_ | refine frk8 ?_ ?_ | refine frk9 ?_ ?_) <;> intro h <;> try (exfalso; omega)) | with_reducible refine quiet_and ?_ ?_ | with_reducible refine awp_drawnA mixed (by decide +kernel) ?_ | ((fail_if_success with_reducible refine stp ?_); simp -implicitDefEqProofs only [go_sem, Nat.reduceEqDiff, Nat.reduceAdd, Nat.reduceLT, Nat.reduceMul, Nat.reduceSub, Nat.reduceLeDiff, ↓reduceIte, reduceCtorEq, ↓String.reduceEq, String.reduceNe, Int.reduceToNat, Int.reduceLT, Int.reduceLE, Int.reduceGT, Int.reduceGE, Int.reduceEq, Int.reduceNe, Int.reduceBEq, Int.reduceBNe, Int.reduceAdd, Int.reduceSub, Int.reduceMul, Int.reduceNeg,  *]))
        have HP := Hid.mk hpb
        obtain ⟨pd, epd⟩ : ∃ pd, pd = pb := ⟨_, rfl⟩
        rw [rowT_rep]
        have nl := neL hb pb hpb
        have nr := neR hb pb hpb
        clear hpb
        subst epd
        refine awp_loopP 0 (fun ts m2 => ∃ D : List Bool, Hid (D.length = L ∧ Flags S L D) ∧ ts 0 = .list 4 (J.map encJ) ∧ ts 8 = .slice pd 0 L L ∧ m2 = hupd m1 pd (rowT D L))
          (fun k ts m2 => ∃ (D : List Bool) (i : Nat), Hid (k = L - i ∧ i ≤ L ∧ D.length = L ∧ Flags S i D) ∧ ts 0 = .list 4 (J.map encJ) ∧ ts 6 = .slice b pre.length L cap ∧ ts 8 = .slice pd 0 L L ∧ ts 9 = .int .i64 (i : Nat) ∧ m2 = hupd m1 pd (rowT D L)) L
          ⟨List.replicate L false, 0, .mk ⟨rfl, Nat.zero_le _, List.length_replicate, fun c hc => by simp only [List.getD_eq_getElem?_getD, List.getElem?_replicate, List.take_zero]; split <;> simp⟩, ttt, ttt, ttt, ttt, rfl⟩ ?_ ?_
        · rintro k ts m2 ⟨D, i, H, t0, t6, t8, t9, hm2⟩
          subst m2
          by_cases hi : i < L
          · have lt : (i : Int) < (L : Int) := by omega
            have hiS : i < S.length := by have := HL.out; have := H0.out; omega
            obtain ⟨x, hx⟩ : ∃ x, S.getD i default = x := ⟨_, rfl⟩
            have hxm : x.1 ∈ idxJ J := HR.out.2.1.perm.mem_iff.1 (List.mem_map_of_mem (by rw [← hx]; exact getD_mem S i hiS))
            obtain ⟨c, hc, hxe⟩ := mem_idx.1 hxm
            obtain ⟨⟨y, at_⟩, t⟩ := x
            injection hxe with he1 he2
            subst he2
            have hcD : c < D.length := by have := H.out; have := H0.out; omega
            have g0 := st_job S pre post i hiS _ hx
            obtain ⟨-, g1⟩ := st_cells S pre post i hiS _ hx
            have l1 := st_len S pre post i hiS
            have g2 := lst_at J c hc y he1.symm
            have s1 := rowT_set D c (decide (y.2.2.1 < t + y.2.2.2)) hcD
            have l3 := rowT_len D
            have l4 : c < (D.flatMap encB).length := by omega
            have lc : (c : Int) < (L : Int) := by have := H0.out; omega
            have w1 : IntKind.i64.wrap ((i : Int) + 1) = ((i + 1 : Nat) : Int) := by rw [wrap_i64 (by omega) (by omega)]; omega
            have hfl := H.out.2.2.2.step (sent_nodup HR.out.2.1) hiS hx rfl hcD
            have HF := Hid.mk hfl
            clear hx hxm hiS hc he1 hcD l3 hfl
            repeat' (first | exact tf0 ‹_› | exact tf1 ‹_› | exact False.elim ‹_› | (with_reducible refine Al.intro ?_; intro pb hpb; (try simp only [hupd_none'] at hpb); (repeat rcases hpb with ⟨⟨hpx, hpy⟩, hpb⟩)) | with_reducible refine need ?_ | ((with_reducible first | refine frk0 ?_ ?_ | refine frk1 ?_ ?_ | refine frk2 ?_ ?_ | refine frk3 ?_ ?_ | refine frk4 ?_ ?_ | refine frk5 ?_ ?_ | refine frk6 ?_ ?_ | refine frk7 ?_ ?_ | refine frk8 ?_ ?_ | refine frk9 ?_ ?_) <;> intro h <;> try (exfalso; omega)) | with_reducible refine quiet_and ?_ ?_ | with_reducible refine awp_drawnA mixed (by decide +kernel) ?_ | ((fail_if_success with_reducible refine stp ?_); simp -implicitDefEqProofs only [go_sem, Nat.reduceEqDiff, Nat.reduceAdd, Nat.reduceLT, Nat.reduceMul, Nat.reduceSub, Nat.reduceLeDiff, ↓reduceIte, reduceCtorEq, ↓String.reduceEq, String.reduceNe, Int.reduceToNat, Int.reduceLT, Int.reduceLE, Int.reduceGT, Int.reduceGE, Int.reduceEq, Int.reduceNe, Int.reduceBEq, Int.reduceBNe, Int.reduceAdd, Int.reduceSub, Int.reduceMul, Int.reduceNeg,  rowT, *]))
            exact Again.intro ⟨L - (i + 1), by have := H.out; omega, _, Sub.refl _, D.set c (decide (y.2.2.1 < t + y.2.2.2)), i + 1, .mk ⟨rfl, by omega, by rw [List.length_set]; exact H.out.2.2.1, HF.out⟩, (by first | (simp only [upd, put, Nat.reduceEqDiff, ↓reduceIte, t0]; done) | (simp [upd, put, t0]; done) | rfl | (simp [upd, put, t0]; rfl)), (by first | (simp only [upd, put, Nat.reduceEqDiff, ↓reduceIte, t6]; done) | (simp [upd, put, t6]; done) | rfl | (simp [upd, put, t6]; rfl)), (by first | (simp only [upd, put, Nat.reduceEqDiff, ↓reduceIte, t8]; done) | (simp [upd, put, t8]; done) | rfl | (simp [upd, put, t8]; rfl)), ttt, by first | rfl | (simp only [rowT, hupd_hupd])⟩
          · have lt : ¬ (i : Int) < (L : Int) := by omega
            repeat' (first | exact tf0 ‹_› | exact tf1 ‹_› | exact False.elim ‹_› | (with_reducible refine Al.intro ?_; intro pb hpb; (try simp only [hupd_none'] at hpb); (repeat rcases hpb with ⟨⟨hpx, hpy⟩, hpb⟩)) | with_reducible refine need ?_ | ((with_reducible first | refine frk0 ?_ ?_ | refine frk1 ?_ ?_ | refine frk2 ?_ ?_ | refine frk3 ?_ ?_ | refine frk4 ?_ ?_ | refine frk5 ?_ ?_ | refine frk6 ?_ ?_ | refine frk7 ?_ ?_ | refine frk8 ?_ ?_ | refine frk9 ?_ ?_) <;> intro h <;> try (exfalso; omega)) | with_reducible refine quiet_and ?_ ?_ | with_reducible refine awp_drawnA mixed (by decide +kernel) ?_ | ((fail_if_success with_reducible refine stp ?_); simp -implicitDefEqProofs only [go_sem, Nat.reduceEqDiff, Nat.reduceAdd, Nat.reduceLT, Nat.reduceMul, Nat.reduceSub, Nat.reduceLeDiff, ↓reduceIte, reduceCtorEq, ↓String.reduceEq, String.reduceNe, Int.reduceToNat, Int.reduceLT, Int.reduceLE, Int.reduceGT, Int.reduceGE, Int.reduceEq, Int.reduceNe, Int.reduceBEq, Int.reduceBNe, Int.reduceAdd, Int.reduceSub, Int.reduceMul, Int.reduceNeg,  *]))
            exact Again.intro ⟨D, .mk ⟨H.out.2.2.1, by have h := H.out.2.2.2; rwa [show i = L by have := H.out; omega] at h⟩, (by first | (simp only [upd, put, Nat.reduceEqDiff, ↓reduceIte, t0]; done) | (simp [upd, put, t0]; done) | rfl | (simp [upd, put, t0]; rfl)), (by first | (simp only [upd, put, Nat.reduceEqDiff, ↓reduceIte, t8]; done) | (simp [upd, put, t8]; done) | rfl | (simp [upd, put, t8]; rfl)), rfl⟩
        · rintro ts m2 ⟨D, H, t0, t8, hm2⟩
          obtain ⟨M, hM⟩ : ∃ M, M = hupd m1 pd (rowT D L) := ⟨_, rfl⟩
          rw [← hM] at hm2
          subst hm2
          have hrowM : m2 pd = some (rowT D L) := by rw [hM, hupd_at, if_pos rfl]
          have HM : Hid (Sub m m2) := .mk (subTrans HR.out.2.2.2.1 (by rw [hM]; exact Sub.fresh (Sub.refl _) HP.out))
          clear hM
          repeat' (first | exact tf0 ‹_› | exact tf1 ‹_› | exact False.elim ‹_› | (with_reducible refine Al.intro ?_; intro pb hpb; (try simp only [hupd_none'] at hpb); (repeat rcases hpb with ⟨⟨hpx, hpy⟩, hpb⟩)) | with_reducible refine need ?_ | ((with_reducible first | refine frk0 ?_ ?_ | refine frk1 ?_ ?_ | refine frk2 ?_ ?_ | refine frk3 ?_ ?_ | refine frk4 ?_ ?_ | refine frk5 ?_ ?_ | refine frk6 ?_ ?_ | refine frk7 ?_ ?_ | refine frk8 ?_ ?_ | refine frk9 ?_ ?_) <;> intro h <;> try (exfalso; omega)) | with_reducible refine quiet_and ?_ ?_ | with_reducible refine awp_drawnA mixed (by decide +kernel) ?_ | ((fail_if_success with_reducible refine stp ?_); simp -implicitDefEqProofs only [go_sem, Nat.reduceEqDiff, Nat.reduceAdd, Nat.reduceLT, Nat.reduceMul, Nat.reduceSub, Nat.reduceLeDiff, ↓reduceIte, reduceCtorEq, ↓String.reduceEq, String.reduceNe, Int.reduceToNat, Int.reduceLT, Int.reduceLE, Int.reduceGT, Int.reduceGE, Int.reduceEq, Int.reduceNe, Int.reduceBEq, Int.reduceBNe, Int.reduceAdd, Int.reduceSub, Int.reduceMul, Int.reduceNeg,  *]))
          refine awp_loopP 2 (fun ts m3 => ∃ v : AVal, Hid (SlM encN 1 (asc D L) v m3 ∧ Sub m m3 ∧ ∀ x, bOf v = some x → m x = none) ∧ ts 10 = v)
            (fun k ts m3 => ∃ (v : AVal) (i : Nat), Hid (k = L - i ∧ i ≤ L ∧ SlM encN 1 (asc D i) v m3 ∧ Sub m2 m3 ∧ ∀ x, bOf v = some x → m2 x = none) ∧ ts 0 = .list 4 (J.map encJ) ∧ ts 8 = .slice pd 0 L L ∧ ts 10 = v ∧ ts 11 = .int .i64 (i : Nat)) L
            ⟨.nils, 0, .mk ⟨rfl, Nat.zero_le _, .inl ⟨rfl, rfl⟩, Sub.refl _, by simp [bOf]⟩, (by first | (simp only [upd, put, Nat.reduceEqDiff, ↓reduceIte, t0]; done) | (simp [upd, put, t0]; done) | rfl | (simp [upd, put, t0]; rfl)), (by first | (simp only [upd, put, Nat.reduceEqDiff, ↓reduceIte, t8]; done) | (simp [upd, put, t8]; done) | rfl | (simp [upd, put, t8]; rfl)), ttt, ttt⟩ ?_ ?_
          · clear t0 t8
            rintro k ts m3 ⟨v, i, I, t0, t8, t10, t11⟩
            by_cases hi : i < L
            · have lt : (i : Int) < (L : Int) := by omega
              have hiD : i < D.length := by have := H.out; omega
              have hrow3 := I.out.2.2.2.1 _ _ hrowM
              have l1 := rowT_len D
              have l3 : i < (D.flatMap encB).length := by omega
              have w1 : IntKind.i64.wrap ((i : Int) + 1) = ((i + 1 : Nat) : Int) := by rw [wrap_i64 (by omega) (by omega)]; omega
              have nl3 := neL hrow3
              have nr3 := neR hrow3
              have hasc := asc_step D i
              cases hq : D.getD i false with
              | true =>
                have g2 := rowT_at D i hiD true hq
                rw [hq, if_pos rfl] at hasc
                have HA := Hid.mk hasc
                clear hq hasc l1 hiD
                repeat' (first | exact tf0 ‹_› | exact tf1 ‹_› | exact False.elim ‹_› | (with_reducible refine Al.intro ?_; intro pb hpb; (try simp only [hupd_none'] at hpb); (repeat rcases hpb with ⟨⟨hpx, hpy⟩, hpb⟩)) | with_reducible refine need ?_ | ((with_reducible first | refine frk0 ?_ ?_ | refine frk1 ?_ ?_ | refine frk2 ?_ ?_ | refine frk3 ?_ ?_ | refine frk4 ?_ ?_ | refine frk5 ?_ ?_ | refine frk6 ?_ ?_ | refine frk7 ?_ ?_ | refine frk8 ?_ ?_ | refine frk9 ?_ ?_) <;> intro h <;> try (exfalso; omega)) | with_reducible refine quiet_and ?_ ?_ | with_reducible refine awp_drawnA mixed (by decide +kernel) ?_ | ((fail_if_success with_reducible refine stp ?_); simp -implicitDefEqProofs only [go_sem, Nat.reduceEqDiff, Nat.reduceAdd, Nat.reduceLT, Nat.reduceMul, Nat.reduceSub, Nat.reduceLeDiff, ↓reduceIte, reduceCtorEq, ↓String.reduceEq, String.reduceNe, Int.reduceToNat, Int.reduceLT, Int.reduceLE, Int.reduceGT, Int.reduceGE, Int.reduceEq, Int.reduceNe, Int.reduceBEq, Int.reduceBNe, Int.reduceAdd, Int.reduceSub, Int.reduceMul, Int.reduceNeg,  rowT, *]))
                refine app1 (enc := encN) (sz := 1) (C := asc D i) (x := (i : Int)) Try.underlying31 tk_3 eb_3 zl_3 (by decide) (by rw [Try.underlying31]; rfl) (by unfold isInt; rw [Try.underlying31]) encN_len rfl ⟨1, by rw [hupd_at, if_pos rfl]⟩ (I.out.2.2.1.fresh hpb) (by have := asc_len D i; omega) (fun v2 m6 h1 h2 => ?_)
                obtain ⟨k1, k2⟩ := h2.sub (mb := m2) (subTrans I.out.2.2.2.1 (Sub.fresh (Sub.refl _) hpb)) I.out.2.2.2.2
                have HN := Hid.mk (And.intro h1 (And.intro k1 k2))
                clear h1 h2 k1 k2
                repeat' (first | exact tf0 ‹_› | exact tf1 ‹_› | exact False.elim ‹_› | (with_reducible refine Al.intro ?_; intro pb hpb; (try simp only [hupd_none'] at hpb); (repeat rcases hpb with ⟨⟨hpx, hpy⟩, hpb⟩)) | with_reducible refine need ?_ | ((with_reducible first | refine frk0 ?_ ?_ | refine frk1 ?_ ?_ | refine frk2 ?_ ?_ | refine frk3 ?_ ?_ | refine frk4 ?_ ?_ | refine frk5 ?_ ?_ | refine frk6 ?_ ?_ | refine frk7 ?_ ?_ | refine frk8 ?_ ?_ | refine frk9 ?_ ?_) <;> intro h <;> try (exfalso; omega)) | with_reducible refine quiet_and ?_ ?_ | with_reducible refine awp_drawnA mixed (by decide +kernel) ?_ | ((fail_if_success with_reducible refine stp ?_); simp -implicitDefEqProofs only [go_sem, Nat.reduceEqDiff, Nat.reduceAdd, Nat.reduceLT, Nat.reduceMul, Nat.reduceSub, Nat.reduceLeDiff, ↓reduceIte, reduceCtorEq, ↓String.reduceEq, String.reduceNe, Int.reduceToNat, Int.reduceLT, Int.reduceLE, Int.reduceGT, Int.reduceGE, Int.reduceEq, Int.reduceNe, Int.reduceBEq, Int.reduceBNe, Int.reduceAdd, Int.reduceSub, Int.reduceMul, Int.reduceNeg,  *]))
                exact Again.intro ⟨L - (i + 1), by have := I.out; omega, _, Sub.refl _, v2, i + 1, .mk ⟨rfl, by omega, by rw [HA.out]; exact HN.out.1, HN.out.2.1, HN.out.2.2⟩, (by first | (simp only [upd, put, Nat.reduceEqDiff, ↓reduceIte, t0]; done) | (simp [upd, put, t0]; done) | rfl | (simp [upd, put, t0]; rfl)), (by first | (simp only [upd, put, Nat.reduceEqDiff, ↓reduceIte, t8]; done) | (simp [upd, put, t8]; done) | rfl | (simp [upd, put, t8]; rfl)), ttt, ttt⟩
              | false =>
                have g2 := rowT_at D i hiD false hq
                rw [hq, if_neg (by simp), List.append_nil] at hasc
                have HA := Hid.mk hasc
                clear hq hasc l1 hiD
                repeat' (first | exact tf0 ‹_› | exact tf1 ‹_› | exact False.elim ‹_› | (with_reducible refine Al.intro ?_; intro pb hpb; (try simp only [hupd_none'] at hpb); (repeat rcases hpb with ⟨⟨hpx, hpy⟩, hpb⟩)) | with_reducible refine need ?_ | ((with_reducible first | refine frk0 ?_ ?_ | refine frk1 ?_ ?_ | refine frk2 ?_ ?_ | refine frk3 ?_ ?_ | refine frk4 ?_ ?_ | refine frk5 ?_ ?_ | refine frk6 ?_ ?_ | refine frk7 ?_ ?_ | refine frk8 ?_ ?_ | refine frk9 ?_ ?_) <;> intro h <;> try (exfalso; omega)) | with_reducible refine quiet_and ?_ ?_ | with_reducible refine awp_drawnA mixed (by decide +kernel) ?_ | ((fail_if_success with_reducible refine stp ?_); simp -implicitDefEqProofs only [go_sem, Nat.reduceEqDiff, Nat.reduceAdd, Nat.reduceLT, Nat.reduceMul, Nat.reduceSub, Nat.reduceLeDiff, ↓reduceIte, reduceCtorEq, ↓String.reduceEq, String.reduceNe, Int.reduceToNat, Int.reduceLT, Int.reduceLE, Int.reduceGT, Int.reduceGE, Int.reduceEq, Int.reduceNe, Int.reduceBEq, Int.reduceBNe, Int.reduceAdd, Int.reduceSub, Int.reduceMul, Int.reduceNeg,  rowT, *]))
                exact Again.intro ⟨L - (i + 1), by have := I.out; omega, _, Sub.refl _, v, i + 1, .mk ⟨rfl, by omega, by rw [HA.out]; exact I.out.2.2.1, I.out.2.2.2.1, I.out.2.2.2.2⟩, (by first | (simp only [upd, put, Nat.reduceEqDiff, ↓reduceIte, t0]; done) | (simp [upd, put, t0]; done) | rfl | (simp [upd, put, t0]; rfl)), (by first | (simp only [upd, put, Nat.reduceEqDiff, ↓reduceIte, t8]; done) | (simp [upd, put, t8]; done) | rfl | (simp [upd, put, t8]; rfl)), (by first | (simp only [upd, put, Nat.reduceEqDiff, ↓reduceIte, t10]; done) | (simp [upd, put, t10]; done) | rfl | (simp [upd, put, t10]; rfl)), ttt⟩
            · have lt : ¬ (i : Int) < (L : Int) := by omega
              repeat' (first | exact tf0 ‹_› | exact tf1 ‹_› | exact False.elim ‹_› | (with_reducible refine Al.intro ?_; intro pb hpb; (try simp only [hupd_none'] at hpb); (repeat rcases hpb with ⟨⟨hpx, hpy⟩, hpb⟩)) | with_reducible refine need ?_ | ((with_reducible first | refine frk0 ?_ ?_ | refine frk1 ?_ ?_ | refine frk2 ?_ ?_ | refine frk3 ?_ ?_ | refine frk4 ?_ ?_ | refine frk5 ?_ ?_ | refine frk6 ?_ ?_ | refine frk7 ?_ ?_ | refine frk8 ?_ ?_ | refine frk9 ?_ ?_) <;> intro h <;> try (exfalso; omega)) | with_reducible refine quiet_and ?_ ?_ | with_reducible refine awp_drawnA mixed (by decide +kernel) ?_ | ((fail_if_success with_reducible refine stp ?_); simp -implicitDefEqProofs only [go_sem, Nat.reduceEqDiff, Nat.reduceAdd, Nat.reduceLT, Nat.reduceMul, Nat.reduceSub, Nat.reduceLeDiff, ↓reduceIte, reduceCtorEq, ↓String.reduceEq, String.reduceNe, Int.reduceToNat, Int.reduceLT, Int.reduceLE, Int.reduceGT, Int.reduceGE, Int.reduceEq, Int.reduceNe, Int.reduceBEq, Int.reduceBNe, Int.reduceAdd, Int.reduceSub, Int.reduceMul, Int.reduceNeg,  *]))
              exact Again.intro ⟨v, .mk ⟨by have h := I.out.2.2.1; rwa [show i = L by have := I.out; omega] at h, subTrans HM.out I.out.2.2.2.1, fun x hx => HM.out.gone (I.out.2.2.2.2 x hx)⟩, (by first | (simp only [upd, put, Nat.reduceEqDiff, ↓reduceIte, t10]; done) | (simp [upd, put, t10]; done) | rfl | (simp [upd, put, t10]; rfl))⟩
          · rintro ts m3 ⟨v, I, t10⟩
            repeat' (first | exact tf0 ‹_› | exact tf1 ‹_› | exact False.elim ‹_› | (with_reducible refine Al.intro ?_; intro pb hpb; (try simp only [hupd_none'] at hpb); (repeat rcases hpb with ⟨⟨hpx, hpy⟩, hpb⟩)) | with_reducible refine need ?_ | ((with_reducible first | refine frk0 ?_ ?_ | refine frk1 ?_ ?_ | refine frk2 ?_ ?_ | refine frk3 ?_ ?_ | refine frk4 ?_ ?_ | refine frk5 ?_ ?_ | refine frk6 ?_ ?_ | refine frk7 ?_ ?_ | refine frk8 ?_ ?_ | refine frk9 ?_ ?_) <;> intro h <;> try (exfalso; omega)) | with_reducible refine quiet_and ?_ ?_ | with_reducible refine awp_drawnA mixed (by decide +kernel) ?_ | ((fail_if_success with_reducible refine stp ?_); simp -implicitDefEqProofs only [go_sem, Nat.reduceEqDiff, Nat.reduceAdd, Nat.reduceLT, Nat.reduceMul, Nat.reduceSub, Nat.reduceLeDiff, ↓reduceIte, reduceCtorEq, ↓String.reduceEq, String.reduceNe, Int.reduceToNat, Int.reduceLT, Int.reduceLE, Int.reduceGT, Int.reduceGE, Int.reduceEq, Int.reduceNe, Int.reduceBEq, Int.reduceBNe, Int.reduceAdd, Int.reduceSub, Int.reduceMul, Int.reduceNeg,  *]))
            refine ⟨_, Sub.refl _, ?_⟩
            (try rw [t10])
            obtain ⟨r1, r2, r3, r4, r5⟩ := HR.out
            refine HK.out r1 S v _ r2 ?_ I.out.2.1 I.out.2.2
            rw [← lates_eq r2 (asc_srt D L) (fun z => asc_mem H.out.1 (by have := HL.out; have := H0.out; omega) r2 H0.out H.out.2 z)]
            exact I.out.1
end Go.Proofs.Ytmifapnmlhchlaa
