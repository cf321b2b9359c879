/- Until when the wire is never idle. -/
import Derived.Test.YtmifapnmlhchlaaE17
set_option linter.all false
namespace Go.Proofs.Ytmifapnmlhchlaa
open Go Go.Proofs.Ytmifapnmlhchlaa.Ab
open Go.Proofs (Try.prog)
set_option maxRecDepth 100000
theorem Sends.bound {n : Int} {R : List Wt} {now : Int} {S : List (Wt × Int)} (h : Sends n R now S) : ∀ B : Int, (∀ u ∈ R, rightJ u.1 = true) → 0 ≤ now → now ≤ B → 1125899906842624 ≤ B → ∀ x ∈ S, 0 ≤ x.2 ∧ x.2 ≤ B + (S.length : Int) * 1073741824 := by
  induction h with
  | nil => intro _ _ _ _ _ x hx; cases hx
  | @cons R R' now t w S hp ht hw hl hs ih =>
    intro B hr h0 hB hB2 x hx
    have hwr := (rightJ_iff _).1 (hr w (hp.mem_iff.1 (by simp)))
    have htB : 0 ≤ t ∧ t ≤ B := by
      rcases ht with ⟨rfl, -⟩ | ⟨h1, ⟨u, hu, h2⟩, -⟩
      · exact ⟨h0, hB⟩
      · have := ((rightJ_iff _).1 (hr u hu)).2.1.2
        have e : kT u = u.1.2.1 := rfl
        omega
    rcases List.mem_cons.1 hx with rfl | hx
    · simp only [List.length_cons]
      omega
    · have := ih (B + 1073741824) (fun u hu => hr u (hp.mem_iff.1 (List.mem_cons_of_mem _ hu))) (by omega) (by omega) (by omega) x hx
      simp only [List.length_cons]
      omega
theorem checkF_right {J : List Jb} {n : Int} (h : checkF J n = 0) : ∀ j ∈ J, rightJ j = true := by
  unfold checkF at h
  split at h
  · cases h
  · split at h
    · cases h
    · split at h
      · cases h
      · rename_i k
        intro j hj
        simp only [List.any_eq_true, Bool.not_eq_true', not_exists, not_and, Bool.not_eq_false] at k
        exact k j hj
/-- Till when the wire is busy, one more looked at. -/
def busyX (a : Int) (x : Wt × Int) : Int := if x.2 ≤ a ∧ a < x.2 + x.1.1.2.2.2 then x.2 + x.1.1.2.2.2 else a
def busyF (S : List (Wt × Int)) (from_ : Int) : Int := S.foldl busyX (clampF from_ 0 4503599627370496)
theorem busy_take (S : List (Wt × Int)) (a : Int) (i : Nat) (h : i < S.length) : (S.take (i + 1)).foldl busyX a = busyX ((S.take i).foldl busyX a) (S.getD i default) := by
  have e : S.take (i + 1) = S.take i ++ [S.getD i default] := by rw [List.take_add_one]; simp [List.getD_eq_getElem?_getD, h]
  rw [e, List.foldl_append]; rfl
set_option maxHeartbeats 4000000 in
theorem busy_spec (G : Nat → AVal) (J : List Jb) (n from_ : Int) (vj : AVal) (m : Heap) (hs : Rd J vj m) (K : AVal → Heap → Prop)
    (hbad : checkF J n ≠ 0 → K (.tuple [.int .i64 0, .int .i64 (checkF J n)]) m)
    (hK : checkF J n = 0 → ∀ (S : List (Wt × Int)) (m' : Heap), Sends n (idxJ J) 0 S → Sub m m' → K (.tuple [.int .i64 (busyF S from_), .int .i64 0]) m') :
    CallWP Try.prog G 13 [vj, .int .i64 n, .int .i64 from_] m K := by
  have HB := Hid.mk hbad
  have HK := Hid.mk hK
  have HS := Hid.mk hs
  clear hbad hK hs
  refine callWP_body Try.func13 rfl (N := 41) rfl (rs := [.tmp 6, .tmp 7]) rfl en_13 (of_decide_eq_true rfl) ?_
  repeat' (first | exact tf0 ‹_› | exact tf1 ‹_› | exact False.elim ‹_› | (with_reducible refine Al.intro ?_; intro pb hpb; (try simp only [hupd_none'] at hpb); (repeat rcases hpb with ⟨⟨hpx, hpy⟩, hpb⟩)) | with_reducible refine need ?_ | ((with_reducible first | refine frk0 ?_ ?_ | refine frk1 ?_ ?_ | refine frk2 ?_ ?_ | refine frk3 ?_ ?_ | refine frk4 ?_ ?_ | refine frk5 ?_ ?_ | refine frk6 ?_ ?_ | refine frk7 ?_ ?_ | refine frk8 ?_ ?_ | refine frk9 ?_ ?_) <;> intro h <;> try (exfalso; omega)) | with_reducible refine quiet_and ?_ ?_ | with_reducible refine awp_drawnA mixed (by decide +kernel) ?_ | ((fail_if_success with_reducible refine stp ?_); simp -implicitDefEqProofs only [go_sem, Nat.reduceEqDiff, Nat.reduceAdd, Nat.reduceLT, Nat.reduceMul, Nat.reduceSub, Nat.reduceLeDiff, ↓reduceIte, reduceCtorEq, ↓String.reduceEq, String.reduceNe, Int.reduceToNat, Int.reduceLT, Int.reduceLE, Int.reduceGT, Int.reduceGE, Int.reduceEq, Int.reduceNe, Int.reduceBEq, Int.reduceBNe, Int.reduceAdd, Int.reduceSub, Int.reduceMul, Int.reduceNeg,  *]))
  refine run_spec G J n vj m HS.out _ ?_ ?_
  · intro hc
    obtain ⟨e, he⟩ : ∃ e, e = checkF J n := ⟨_, rfl⟩
    rw [← he] at hc ⊢
    have HE := Hid.mk he
    clear he
    repeat' (first | exact tf0 ‹_› | exact tf1 ‹_› | exact False.elim ‹_› | (with_reducible refine Al.intro ?_; intro pb hpb; (try simp only [hupd_none'] at hpb); (repeat rcases hpb with ⟨⟨hpx, hpy⟩, hpb⟩)) | with_reducible refine need ?_ | ((with_reducible first | refine frk0 ?_ ?_ | refine frk1 ?_ ?_ | refine frk2 ?_ ?_ | refine frk3 ?_ ?_ | refine frk4 ?_ ?_ | refine frk5 ?_ ?_ | refine frk6 ?_ ?_ | refine frk7 ?_ ?_ | refine frk8 ?_ ?_ | refine frk9 ?_ ?_) <;> intro h <;> try (exfalso; omega)) | with_reducible refine quiet_and ?_ ?_ | with_reducible refine awp_drawnA mixed (by decide +kernel) ?_ | ((fail_if_success with_reducible refine stp ?_); simp -implicitDefEqProofs only [go_sem, Nat.reduceEqDiff, Nat.reduceAdd, Nat.reduceLT, Nat.reduceMul, Nat.reduceSub, Nat.reduceLeDiff, ↓reduceIte, reduceCtorEq, ↓String.reduceEq, String.reduceNe, Int.reduceToNat, Int.reduceLT, Int.reduceLE, Int.reduceGT, Int.reduceGE, Int.reduceEq, Int.reduceNe, Int.reduceBEq, Int.reduceBNe, Int.reduceAdd, Int.reduceSub, Int.reduceMul, Int.reduceNeg,  *]))
    exact ⟨_, Sub.refl _, by have := HB.out (by rw [← HE.out]; exact hc); rwa [← HE.out] at this⟩
  · intro hc S vo m1 hse hso hsub hfo
    have HR := Hid.mk (And.intro hc (And.intro hse (And.intro hso (And.intro hsub hfo))))
    have hlen : S.length = J.length := by have := hse.perm.length_eq; rw [List.length_map, idxJ_len] at this; exact this
    have HL := Hid.mk (And.intro hlen (checkF_len hc))
    have hvo := hso.slv
    clear hc hse hso hsub hfo hlen
    rcases hvo with ⟨rfl, hS⟩ | ⟨b, o, cap, rfl⟩
    · have HE := Hid.mk hS
      clear hS
      repeat' (first | exact tf0 ‹_› | exact tf1 ‹_› | exact False.elim ‹_› | (with_reducible refine Al.intro ?_; intro pb hpb; (try simp only [hupd_none'] at hpb); (repeat rcases hpb with ⟨⟨hpx, hpy⟩, hpb⟩)) | with_reducible refine need ?_ | ((with_reducible first | refine frk0 ?_ ?_ | refine frk1 ?_ ?_ | refine frk2 ?_ ?_ | refine frk3 ?_ ?_ | refine frk4 ?_ ?_ | refine frk5 ?_ ?_ | refine frk6 ?_ ?_ | refine frk7 ?_ ?_ | refine frk8 ?_ ?_ | refine frk9 ?_ ?_) <;> intro h <;> try (exfalso; omega)) | with_reducible refine quiet_and ?_ ?_ | with_reducible refine awp_drawnA mixed (by decide +kernel) ?_ | ((fail_if_success with_reducible refine stp ?_); simp -implicitDefEqProofs only [go_sem, Nat.reduceEqDiff, Nat.reduceAdd, Nat.reduceLT, Nat.reduceMul, Nat.reduceSub, Nat.reduceLeDiff, ↓reduceIte, reduceCtorEq, ↓String.reduceEq, String.reduceNe, Int.reduceToNat, Int.reduceLT, Int.reduceLE, Int.reduceGT, Int.reduceGE, Int.reduceEq, Int.reduceNe, Int.reduceBEq, Int.reduceBNe, Int.reduceAdd, Int.reduceSub, Int.reduceMul, Int.reduceNeg,  *]))
      refine CallWP.to (clamp_spec G from_ 0 4503599627370496 _) ?_
      repeat' (first | exact tf0 ‹_› | exact tf1 ‹_› | exact False.elim ‹_› | (with_reducible refine Al.intro ?_; intro pb hpb; (try simp only [hupd_none'] at hpb); (repeat rcases hpb with ⟨⟨hpx, hpy⟩, hpb⟩)) | with_reducible refine need ?_ | ((with_reducible first | refine frk0 ?_ ?_ | refine frk1 ?_ ?_ | refine frk2 ?_ ?_ | refine frk3 ?_ ?_ | refine frk4 ?_ ?_ | refine frk5 ?_ ?_ | refine frk6 ?_ ?_ | refine frk7 ?_ ?_ | refine frk8 ?_ ?_ | refine frk9 ?_ ?_) <;> intro h <;> try (exfalso; omega)) | with_reducible refine quiet_and ?_ ?_ | with_reducible refine awp_drawnA mixed (by decide +kernel) ?_ | ((fail_if_success with_reducible refine stp ?_); simp -implicitDefEqProofs only [go_sem, Nat.reduceEqDiff, Nat.reduceAdd, Nat.reduceLT, Nat.reduceMul, Nat.reduceSub, Nat.reduceLeDiff, ↓reduceIte, reduceCtorEq, ↓String.reduceEq, String.reduceNe, Int.reduceToNat, Int.reduceLT, Int.reduceLE, Int.reduceGT, Int.reduceGE, Int.reduceEq, Int.reduceNe, Int.reduceBEq, Int.reduceBNe, Int.reduceAdd, Int.reduceSub, Int.reduceMul, Int.reduceNeg,  *]))
      refine awp_loopP 0 (fun ts m' => ts 10 = .int .i64 (clampF from_ 0 4503599627370496) ∧ m' = m1) (fun k ts m' => ts 10 = .int .i64 (clampF from_ 0 4503599627370496) ∧ ts 25 = .int .i64 0 ∧ ts 26 = .int .i64 0 ∧ m' = m1) 0 ⟨ttt, ttt, ttt, rfl⟩ ?_ ?_
      · rintro k ts m2 ⟨t10, t25, t26, hm2⟩
        subst m2
        repeat' (first | exact tf0 ‹_› | exact tf1 ‹_› | exact False.elim ‹_› | (with_reducible refine Al.intro ?_; intro pb hpb; (try simp only [hupd_none'] at hpb); (repeat rcases hpb with ⟨⟨hpx, hpy⟩, hpb⟩)) | with_reducible refine need ?_ | ((with_reducible first | refine frk0 ?_ ?_ | refine frk1 ?_ ?_ | refine frk2 ?_ ?_ | refine frk3 ?_ ?_ | refine frk4 ?_ ?_ | refine frk5 ?_ ?_ | refine frk6 ?_ ?_ | refine frk7 ?_ ?_ | refine frk8 ?_ ?_ | refine frk9 ?_ ?_) <;> intro h <;> try (exfalso; omega)) | with_reducible refine quiet_and ?_ ?_ | with_reducible refine awp_drawnA mixed (by decide +kernel) ?_ | ((fail_if_success with_reducible refine stp ?_); simp -implicitDefEqProofs only [go_sem, Nat.reduceEqDiff, Nat.reduceAdd, Nat.reduceLT, Nat.reduceMul, Nat.reduceSub, Nat.reduceLeDiff, ↓reduceIte, reduceCtorEq, ↓String.reduceEq, String.reduceNe, Int.reduceToNat, Int.reduceLT, Int.reduceLE, Int.reduceGT, Int.reduceGE, Int.reduceEq, Int.reduceNe, Int.reduceBEq, Int.reduceBNe, Int.reduceAdd, Int.reduceSub, Int.reduceMul, Int.reduceNeg,  *]))
        exact Again.intro ⟨(by first | (simp only [upd, put, Nat.reduceEqDiff, ↓reduceIte, t10]; done) | (simp [upd, put, t10]; done) | rfl | (simp [upd, put, t10]; rfl)), rfl⟩
      · rintro ts m2 ⟨t10, hm2⟩
        subst m2
        repeat' (first | exact tf0 ‹_› | exact tf1 ‹_› | exact False.elim ‹_› | (with_reducible refine Al.intro ?_; intro pb hpb; (try simp only [hupd_none'] at hpb); (repeat rcases hpb with ⟨⟨hpx, hpy⟩, hpb⟩)) | with_reducible refine need ?_ | ((with_reducible first | refine frk0 ?_ ?_ | refine frk1 ?_ ?_ | refine frk2 ?_ ?_ | refine frk3 ?_ ?_ | refine frk4 ?_ ?_ | refine frk5 ?_ ?_ | refine frk6 ?_ ?_ | refine frk7 ?_ ?_ | refine frk8 ?_ ?_ | refine frk9 ?_ ?_) <;> intro h <;> try (exfalso; omega)) | with_reducible refine quiet_and ?_ ?_ | with_reducible refine awp_drawnA mixed (by decide +kernel) ?_ | ((fail_if_success with_reducible refine stp ?_); simp -implicitDefEqProofs only [go_sem, Nat.reduceEqDiff, Nat.reduceAdd, Nat.reduceLT, Nat.reduceMul, Nat.reduceSub, Nat.reduceLeDiff, ↓reduceIte, reduceCtorEq, ↓String.reduceEq, String.reduceNe, Int.reduceToNat, Int.reduceLT, Int.reduceLE, Int.reduceGT, Int.reduceGE, Int.reduceEq, Int.reduceNe, Int.reduceBEq, Int.reduceBNe, Int.reduceAdd, Int.reduceSub, Int.reduceMul, Int.reduceNeg,  *]))
        refine ⟨_, Sub.refl _, ?_⟩
        have := HK.out HR.out.1 S _ HR.out.2.1 HR.out.2.2.2.1
        rw [HE.out] at this
        exact this
    · obtain ⟨L, hL⟩ : ∃ L, L = S.length := ⟨_, rfl⟩
      have H0 := Hid.mk hL
      rw [← hL] at HR
      rw [← hL]
      clear hL
      repeat' (first | exact tf0 ‹_› | exact tf1 ‹_› | exact False.elim ‹_› | (with_reducible refine Al.intro ?_; intro pb hpb; (try simp only [hupd_none'] at hpb); (repeat rcases hpb with ⟨⟨hpx, hpy⟩, hpb⟩)) | with_reducible refine need ?_ | ((with_reducible first | refine frk0 ?_ ?_ | refine frk1 ?_ ?_ | refine frk2 ?_ ?_ | refine frk3 ?_ ?_ | refine frk4 ?_ ?_ | refine frk5 ?_ ?_ | refine frk6 ?_ ?_ | refine frk7 ?_ ?_ | refine frk8 ?_ ?_ | refine frk9 ?_ ?_) <;> intro h <;> try (exfalso; omega)) | with_reducible refine quiet_and ?_ ?_ | with_reducible refine awp_drawnA mixed (by decide +kernel) ?_ | ((fail_if_success with_reducible refine stp ?_); simp -implicitDefEqProofs only [go_sem, Nat.reduceEqDiff, Nat.reduceAdd, Nat.reduceLT, Nat.reduceMul, Nat.reduceSub, Nat.reduceLeDiff, ↓reduceIte, reduceCtorEq, ↓String.reduceEq, String.reduceNe, Int.reduceToNat, Int.reduceLT, Int.reduceLE, Int.reduceGT, Int.reduceGE, Int.reduceEq, Int.reduceNe, Int.reduceBEq, Int.reduceBNe, Int.reduceAdd, Int.reduceSub, Int.reduceMul, Int.reduceNeg,  *]))
      refine CallWP.to (clamp_spec G from_ 0 4503599627370496 _) ?_
      repeat' (first | exact tf0 ‹_› | exact tf1 ‹_› | exact False.elim ‹_› | (with_reducible refine Al.intro ?_; intro pb hpb; (try simp only [hupd_none'] at hpb); (repeat rcases hpb with ⟨⟨hpx, hpy⟩, hpb⟩)) | with_reducible refine need ?_ | ((with_reducible first | refine frk0 ?_ ?_ | refine frk1 ?_ ?_ | refine frk2 ?_ ?_ | refine frk3 ?_ ?_ | refine frk4 ?_ ?_ | refine frk5 ?_ ?_ | refine frk6 ?_ ?_ | refine frk7 ?_ ?_ | refine frk8 ?_ ?_ | refine frk9 ?_ ?_) <;> intro h <;> try (exfalso; omega)) | with_reducible refine quiet_and ?_ ?_ | with_reducible refine awp_drawnA mixed (by decide +kernel) ?_ | ((fail_if_success with_reducible refine stp ?_); simp -implicitDefEqProofs only [go_sem, Nat.reduceEqDiff, Nat.reduceAdd, Nat.reduceLT, Nat.reduceMul, Nat.reduceSub, Nat.reduceLeDiff, ↓reduceIte, reduceCtorEq, ↓String.reduceEq, String.reduceNe, Int.reduceToNat, Int.reduceLT, Int.reduceLE, Int.reduceGT, Int.reduceGE, Int.reduceEq, Int.reduceNe, Int.reduceBEq, Int.reduceBNe, Int.reduceAdd, Int.reduceSub, Int.reduceMul, Int.reduceNeg,  *]))
      refine awp_loopP 0 (fun ts m' => Hid (Sub m m') ∧ ts 10 = .int .i64 (busyF S from_))
        (fun k ts m' => ∃ (a : Int) (i : Nat), Hid (k = L - i ∧ i ≤ L ∧ Sub m1 m' ∧ a = (S.take i).foldl busyX (clampF from_ 0 4503599627370496)) ∧ ts 10 = .int .i64 a ∧ ts 24 = .slice b o L cap ∧ ts 25 = .int .i64 L ∧ ts 26 = .int .i64 (i : Nat)) L
        ⟨clampF from_ 0 4503599627370496, 0, .mk ⟨rfl, Nat.zero_le _, Sub.refl _, rfl⟩, ttt, ttt, ttt, ttt⟩ ?_ ?_
      · rintro k ts m2 ⟨a, i, H, t10, t24, t25, t26⟩
        by_cases hi : i < L
        · have lt : (i : Int) < (L : Int) := by omega
          have hiS : i < S.length := by have := H0.out; omega
          obtain ⟨x, hx⟩ : ∃ x, S.getD i default = x := ⟨_, rfl⟩
          obtain ⟨pre, post, N, rfl, -, hrow, -, -⟩ := slm_slice HR.out.2.2.1
          have hrow2 := H.out.2.2.1 _ _ hrow
          have hxS : x ∈ S := by rw [← hx]; exact getD_mem S i hiS
          have hxm : x.1 ∈ idxJ J := HR.out.2.1.perm.mem_iff.1 (List.mem_map_of_mem hxS)
          have hxr := (rightJ_iff _).1 (checkF_right HR.out.1 _ (idxJ_mem hxm))
          have hxb := HR.out.2.1.bound 1125899906842624 (fun u hu => checkF_right HR.out.1 _ (idxJ_mem hu)) (Int.le_refl _) (by omega) (Int.le_refl _) x hxS
          have g1 := st_at S pre post i hiS x hx
          have l1 := st_len S pre post i hiS
          have nl := neL hrow2
          have nr := neR hrow2
          have w1 : IntKind.i64.wrap ((i : Int) + 1) = ((i + 1 : Nat) : Int) := by have := HL.out; have := H0.out; rw [wrap_i64 (by omega) (by omega)]; omega
          have w2 : IntKind.i64.wrap (x.2 + x.1.1.2.2.2 - 1) = x.2 + x.1.1.2.2.2 - 1 := by have := HL.out; rw [wrap_i64 (by omega) (by omega)]
          have hst := busy_take S (clampF from_ 0 4503599627370496) i hiS
          rw [hx] at hst
          have HX := Hid.mk (And.intro hst hxr)
          have hle : x.2 ≤ x.2 + x.1.1.2.2.2 - 1 := by omega
          have HLE := Hid.mk hle
          obtain ⟨q, hq⟩ : ∃ q, q = decide (x.2 ≤ a ∧ a ≤ x.2 + x.1.1.2.2.2 - 1) := ⟨_, rfl⟩
          have HQ := Hid.mk hq
          clear hx hrow hst hiS hxm hxS hxr hxb hle hq
          repeat' (first | exact tf0 ‹_› | exact tf1 ‹_› | exact False.elim ‹_› | (with_reducible refine Al.intro ?_; intro pb hpb; (try simp only [hupd_none'] at hpb); (repeat rcases hpb with ⟨⟨hpx, hpy⟩, hpb⟩)) | with_reducible refine need ?_ | ((with_reducible first | refine frk0 ?_ ?_ | refine frk1 ?_ ?_ | refine frk2 ?_ ?_ | refine frk3 ?_ ?_ | refine frk4 ?_ ?_ | refine frk5 ?_ ?_ | refine frk6 ?_ ?_ | refine frk7 ?_ ?_ | refine frk8 ?_ ?_ | refine frk9 ?_ ?_) <;> intro h <;> try (exfalso; omega)) | with_reducible refine quiet_and ?_ ?_ | with_reducible refine awp_drawnA mixed (by decide +kernel) ?_ | ((fail_if_success with_reducible refine stp ?_); simp -implicitDefEqProofs only [go_sem, Nat.reduceEqDiff, Nat.reduceAdd, Nat.reduceLT, Nat.reduceMul, Nat.reduceSub, Nat.reduceLeDiff, ↓reduceIte, reduceCtorEq, ↓String.reduceEq, String.reduceNe, Int.reduceToNat, Int.reduceLT, Int.reduceLE, Int.reduceGT, Int.reduceGE, Int.reduceEq, Int.reduceNe, Int.reduceBEq, Int.reduceBNe, Int.reduceAdd, Int.reduceSub, Int.reduceMul, Int.reduceNeg,  *]))
          refine CallWP.to (within_spec G a x.2 (x.2 + x.1.1.2.2.2 - 1) HLE.out _) ?_
          rw [← HQ.out]
          cases q with
          | true =>
            have HQ2 := of_decide_eq_true HQ.out.symm
            have HQ := Hid.mk HQ2
            clear HQ2
            repeat' (first | exact tf0 ‹_› | exact tf1 ‹_› | exact False.elim ‹_› | (with_reducible refine Al.intro ?_; intro pb hpb; (try simp only [hupd_none'] at hpb); (repeat rcases hpb with ⟨⟨hpx, hpy⟩, hpb⟩)) | with_reducible refine need ?_ | ((with_reducible first | refine frk0 ?_ ?_ | refine frk1 ?_ ?_ | refine frk2 ?_ ?_ | refine frk3 ?_ ?_ | refine frk4 ?_ ?_ | refine frk5 ?_ ?_ | refine frk6 ?_ ?_ | refine frk7 ?_ ?_ | refine frk8 ?_ ?_ | refine frk9 ?_ ?_) <;> intro h <;> try (exfalso; omega)) | with_reducible refine quiet_and ?_ ?_ | with_reducible refine awp_drawnA mixed (by decide +kernel) ?_ | ((fail_if_success with_reducible refine stp ?_); simp -implicitDefEqProofs only [go_sem, Nat.reduceEqDiff, Nat.reduceAdd, Nat.reduceLT, Nat.reduceMul, Nat.reduceSub, Nat.reduceLeDiff, ↓reduceIte, reduceCtorEq, ↓String.reduceEq, String.reduceNe, Int.reduceToNat, Int.reduceLT, Int.reduceLE, Int.reduceGT, Int.reduceGE, Int.reduceEq, Int.reduceNe, Int.reduceBEq, Int.reduceBNe, Int.reduceAdd, Int.reduceSub, Int.reduceMul, Int.reduceNeg,  *]))
            exact Again.intro ⟨L - (i + 1), by have := H.out; omega, _, Sub.refl _, x.2 + x.1.1.2.2.2, i + 1, .mk ⟨rfl, by omega, subTrans H.out.2.2.1 (Sub.fresh (Sub.refl _) hpb), by rw [HX.out.1, ← H.out.2.2.2]; unfold busyX; rw [if_pos (by have := HQ.out; omega)]⟩, ttt, (by first | (simp only [upd, put, Nat.reduceEqDiff, ↓reduceIte, t24]; done) | (simp [upd, put, t24]; done) | rfl | (simp [upd, put, t24]; rfl)), (by first | (simp only [upd, put, Nat.reduceEqDiff, ↓reduceIte, t25]; done) | (simp [upd, put, t25]; done) | rfl | (simp [upd, put, t25]; rfl)), ttt⟩
          | false =>
            have HQ2 := of_decide_eq_false HQ.out.symm
            have HQ := Hid.mk HQ2
            clear HQ2
            repeat' (first | exact tf0 ‹_› | exact tf1 ‹_› | exact False.elim ‹_› | (with_reducible refine Al.intro ?_; intro pb hpb; (try simp only [hupd_none'] at hpb); (repeat rcases hpb with ⟨⟨hpx, hpy⟩, hpb⟩)) | with_reducible refine need ?_ | ((with_reducible first | refine frk0 ?_ ?_ | refine frk1 ?_ ?_ | refine frk2 ?_ ?_ | refine frk3 ?_ ?_ | refine frk4 ?_ ?_ | refine frk5 ?_ ?_ | refine frk6 ?_ ?_ | refine frk7 ?_ ?_ | refine frk8 ?_ ?_ | refine frk9 ?_ ?_) <;> intro h <;> try (exfalso; omega)) | with_reducible refine quiet_and ?_ ?_ | with_reducible refine awp_drawnA mixed (by decide +kernel) ?_ | ((fail_if_success with_reducible refine stp ?_); simp -implicitDefEqProofs only [go_sem, Nat.reduceEqDiff, Nat.reduceAdd, Nat.reduceLT, Nat.reduceMul, Nat.reduceSub, Nat.reduceLeDiff, ↓reduceIte, reduceCtorEq, ↓String.reduceEq, String.reduceNe, Int.reduceToNat, Int.reduceLT, Int.reduceLE, Int.reduceGT, Int.reduceGE, Int.reduceEq, Int.reduceNe, Int.reduceBEq, Int.reduceBNe, Int.reduceAdd, Int.reduceSub, Int.reduceMul, Int.reduceNeg,  *]))
            exact Again.intro ⟨L - (i + 1), by have := H.out; omega, _, Sub.refl _, a, i + 1, .mk ⟨rfl, by omega, subTrans H.out.2.2.1 (Sub.fresh (Sub.refl _) hpb), by rw [HX.out.1, ← H.out.2.2.2]; unfold busyX; rw [if_neg (by have := HQ.out; omega)]⟩, (by first | (simp only [upd, put, Nat.reduceEqDiff, ↓reduceIte, t10]; done) | (simp [upd, put, t10]; done) | rfl | (simp [upd, put, t10]; rfl)), (by first | (simp only [upd, put, Nat.reduceEqDiff, ↓reduceIte, t24]; done) | (simp [upd, put, t24]; done) | rfl | (simp [upd, put, t24]; rfl)), (by first | (simp only [upd, put, Nat.reduceEqDiff, ↓reduceIte, t25]; done) | (simp [upd, put, t25]; done) | rfl | (simp [upd, put, t25]; rfl)), ttt⟩
        · have lt : ¬ (i : Int) < (L : Int) := by omega
          repeat' (first | exact tf0 ‹_› | exact tf1 ‹_› | exact False.elim ‹_› | (with_reducible refine Al.intro ?_; intro pb hpb; (try simp only [hupd_none'] at hpb); (repeat rcases hpb with ⟨⟨hpx, hpy⟩, hpb⟩)) | with_reducible refine need ?_ | ((with_reducible first | refine frk0 ?_ ?_ | refine frk1 ?_ ?_ | refine frk2 ?_ ?_ | refine frk3 ?_ ?_ | refine frk4 ?_ ?_ | refine frk5 ?_ ?_ | refine frk6 ?_ ?_ | refine frk7 ?_ ?_ | refine frk8 ?_ ?_ | refine frk9 ?_ ?_) <;> intro h <;> try (exfalso; omega)) | with_reducible refine quiet_and ?_ ?_ | with_reducible refine awp_drawnA mixed (by decide +kernel) ?_ | ((fail_if_success with_reducible refine stp ?_); simp -implicitDefEqProofs only [go_sem, Nat.reduceEqDiff, Nat.reduceAdd, Nat.reduceLT, Nat.reduceMul, Nat.reduceSub, Nat.reduceLeDiff, ↓reduceIte, reduceCtorEq, ↓String.reduceEq, String.reduceNe, Int.reduceToNat, Int.reduceLT, Int.reduceLE, Int.reduceGT, Int.reduceGE, Int.reduceEq, Int.reduceNe, Int.reduceBEq, Int.reduceBNe, Int.reduceAdd, Int.reduceSub, Int.reduceMul, Int.reduceNeg,  *]))
          exact Again.intro ⟨.mk (subTrans HR.out.2.2.2.1 H.out.2.2.1), by
            have h := H.out.2.2.2
            rw [List.take_of_length_le (by have := H0.out; omega)] at h
            have e : busyF S from_ = a := h.symm
            rw [e]; exact ((by first | (simp only [upd, put, Nat.reduceEqDiff, ↓reduceIte, t10]; done) | (simp [upd, put, t10]; done) | rfl | (simp [upd, put, t10]; rfl)))⟩
      · rintro ts m2 ⟨H, t10⟩
        repeat' (first | exact tf0 ‹_› | exact tf1 ‹_› | exact False.elim ‹_› | (with_reducible refine Al.intro ?_; intro pb hpb; (try simp only [hupd_none'] at hpb); (repeat rcases hpb with ⟨⟨hpx, hpy⟩, hpb⟩)) | with_reducible refine need ?_ | ((with_reducible first | refine frk0 ?_ ?_ | refine frk1 ?_ ?_ | refine frk2 ?_ ?_ | refine frk3 ?_ ?_ | refine frk4 ?_ ?_ | refine frk5 ?_ ?_ | refine frk6 ?_ ?_ | refine frk7 ?_ ?_ | refine frk8 ?_ ?_ | refine frk9 ?_ ?_) <;> intro h <;> try (exfalso; omega)) | with_reducible refine quiet_and ?_ ?_ | with_reducible refine awp_drawnA mixed (by decide +kernel) ?_ | ((fail_if_success with_reducible refine stp ?_); simp -implicitDefEqProofs only [go_sem, Nat.reduceEqDiff, Nat.reduceAdd, Nat.reduceLT, Nat.reduceMul, Nat.reduceSub, Nat.reduceLeDiff, ↓reduceIte, reduceCtorEq, ↓String.reduceEq, String.reduceNe, Int.reduceToNat, Int.reduceLT, Int.reduceLE, Int.reduceGT, Int.reduceGE, Int.reduceEq, Int.reduceNe, Int.reduceBEq, Int.reduceBNe, Int.reduceAdd, Int.reduceSub, Int.reduceMul, Int.reduceNeg,  *]))
        exact ⟨_, Sub.refl _, HK.out HR.out.1 S _ HR.out.2.1 H.out⟩
end Go.Proofs.Ytmifapnmlhchlaa
