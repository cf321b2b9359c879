/- Those that are sent too late. -/
import Derived.Test.YtmifapnmlhchlaaE15
import Derived.Test.YtmifapnmlhchlaaLgb
import Derived.Test.YtmifapnmlhchlaaSh
set_option linter.all false
namespace Go.Proofs.Ytmifapnmlhchlaa
open Go Go.Proofs.Ytmifapnmlhchlaa.Ab
open Go.Proofs (Try.prog)
set_option maxRecDepth 100000
abbrev encN (x : Int) : List AVal := [.int .i64 x]
theorem encN_len (x : Int) : (encN x).length = 1 := rfl
theorem encN_map (C : List Int) : C.flatMap encN = C.map (AVal.int .i64) := by
  induction C with
  | nil => rfl
  | cons x t ih => rw [List.flatMap_cons, ih]; rfl
def srtI (C : List Int) : List Int := C.mergeSort fun x y => decide (x ≤ y)
theorem sortI_spec (G : Nat → AVal) (C : List Int) (hl : C.length ≤ 1000) (v : AVal) (m : Heap) (hs : SlM encN 1 C v m) (K : AVal → Heap → Prop)
    (hK : ∀ m', SlM encN 1 (srtI C) v m' → (∀ x, bOf v ≠ some x → m' x = m x) → K (.tuple []) m') : CallWP Try.prog G 29 [v] m K := by
  have hlen : (srtI C).length = C.length := List.length_mergeSort _
  rcases hs with ⟨rfl, rfl⟩ | ⟨b, blk, hb, pre, post, N, cap, rfl, rfl, hN, hc⟩
  · exact ints_nil en_29 Go.Proofs.Try.slices_Sort_int_none m K (hK m (.inl ⟨rfl, by simp [srtI]⟩) fun _ _ => rfl)
  · rw [encN_map] at hb
    refine ints_wp en_29 Go.Proofs.Try.slices_Sort_int C pre post N b cap m K hb (by omega) ?_
    rw [← hlen] at hK
    refine hK _ (.inr ⟨b, _, by rw [hupd_at, if_pos rfl], pre, post, N, cap, rfl, by rw [encN_map]; rfl, hN, by rw [hlen]; exact hc⟩) (fun x hx => hupd_ne fun e => hx (by rw [e]; rfl))
/-- An empty slice. -/
def Emp (v : AVal) : Prop := v = .nils ∨ (∃ b o c, v = .slice b o 0 c) ∨ v = .list 4 []
/-- Is it sent too late? -/
def lateX (x : Wt × Int) : Bool := decide (x.1.1.2.2.1 < x.2 + x.1.1.2.2.2)
/-- The places of those that are sent too late. -/
def latesOf (S : List (Wt × Int)) : List Int := (S.filter lateX).map fun x => x.1.2
theorem latesOf_take (S : List (Wt × Int)) (i : Nat) (h : i < S.length) : latesOf (S.take (i + 1)) = latesOf (S.take i) ++ (if lateX (S.getD i default) = true then [(S.getD i default).1.2] else []) := by
  have e : S.take (i + 1) = S.take i ++ [S.getD i default] := by rw [List.take_add_one]; simp [List.getD_eq_getElem?_getD, h]
  rw [e]
  unfold latesOf
  rw [List.filter_append, List.map_append]
  congr 1
  generalize S.getD i default = x
  cases hx : lateX x
  · simp [hx]
  · simp [hx]
theorem latesOf_len (S : List (Wt × Int)) : (latesOf S).length ≤ S.length := by
  unfold latesOf; rw [List.length_map]; exact List.length_filter_le _ _
theorem st_at (S : List (Wt × Int)) (pre post : List AVal) (i : Nat) (hi : i < S.length) (x : Wt × Int) (hx : S.getD i default = x) : ((pre ++ (S.flatMap encSt ++ post)).drop (pre.length + i * 3)).take 3 = [.int .i64 x.1.2, .int .i64 x.2, .int .i64 (x.2 + x.1.1.2.2.2)] := by
  rw [row_at (enc := encSt) (sz := 3) encSt_len S pre post i hi, hx]
theorem st_len (S : List (Wt × Int)) (pre post : List AVal) (i : Nat) (hi : i < S.length) : pre.length + i * 3 + 3 ≤ (pre ++ (S.flatMap encSt ++ post)).length := row_len (enc := encSt) (sz := 3) encSt_len S pre post i hi
theorem j_due (J : List Jb) (pre post : List AVal) (i : Nat) (hi : i < J.length) (x : Jb) (hx : J.getD i default = x) : (pre ++ (J.flatMap encJc ++ post)).getD (pre.length + i * 4 + 2) .undef = .int .i64 x.2.2.1 := by
  have h := j_at J pre post i hi x hx
  generalize hL : pre ++ (J.flatMap encJc ++ post) = L at h
  generalize pre.length + i * 4 = a at h
  have key : L.getD (a + 2) .undef = ((L.drop a).take 4).getD 2 .undef := by
    simp [List.getD_eq_getElem?_getD, List.getElem?_take]
  rw [key, h]; rfl
theorem checkF_len {J : List Jb} {n : Int} (h : checkF J n = 0) : J.length ≤ 256 := by
  unfold checkF at h
  split at h
  · cases h
  · split at h
    · cases h
    · omega
set_option maxHeartbeats 4000000 in
theorem late_spec (G : Nat → AVal) (J : List Jb) (n : Int) (vj : AVal) (m : Heap) (hs : Rd J vj m) (K : AVal → Heap → Prop)
    (hbad : checkF J n ≠ 0 → K (.tuple [.nils, .int .i64 (checkF J n)]) m)
    (hK : checkF J n = 0 → ∀ (S : List (Wt × Int)) (v : AVal) (m' : Heap), Sends n (idxJ J) 0 S → SlM encN 1 (srtI (latesOf S)) v m' → Sub m m' → (∀ c, bOf v = some c → m c = none) → K (.tuple [v, .int .i64 0]) m') :
    CallWP Try.prog G 11 [vj, .int .i64 n] m K := by
  have HB := Hid.mk hbad
  have HK := Hid.mk hK
  have HS := Hid.mk hs
  clear hbad hK hs
  refine callWP_body Try.func11 rfl (N := 44) rfl (rs := [.tmp 4, .tmp 5]) rfl en_11 (of_decide_eq_true rfl) ?_
  repeat' (first | exact tf0 ‹_› | exact tf1 ‹_› | exact False.elim ‹_› | (with_reducible refine Al.intro ?_; intro pb hpb; (try simp only [hupd_none'] at hpb); (repeat rcases hpb with ⟨⟨hpx, hpy⟩, hpb⟩)) | with_reducible refine need ?_ | ((with_reducible first | refine frk0 ?_ ?_ | refine frk1 ?_ ?_ | refine frk2 ?_ ?_ | refine frk3 ?_ ?_ | refine frk4 ?_ ?_ | refine frk5 ?_ ?_ | refine frk6 ?_ ?_ | refine frk7 ?_ ?_ | refine frk8 ?_ ?_ | refine frk9 ?_ ?_) <;> intro h <;> try (exfalso; omega)) | with_reducible refine quiet_and ?_ ?_ | with_reducible refine awp_drawnA mixed (by decide +kernel) ?_ | ((fail_if_success with_reducible refine stp ?_); simp -implicitDefEqProofs only [go_sem, Nat.reduceEqDiff, Nat.reduceAdd, Nat.reduceLT, Nat.reduceMul, Nat.reduceSub, Nat.reduceLeDiff, ↓reduceIte, reduceCtorEq, ↓String.reduceEq, String.reduceNe, Int.reduceToNat, Int.reduceLT, Int.reduceLE, Int.reduceGT, Int.reduceGE, Int.reduceEq, Int.reduceNe, Int.reduceBEq, Int.reduceBNe, Int.reduceAdd, Int.reduceSub, Int.reduceMul, Int.reduceNeg,  *]))
  refine run_spec G J n vj m HS.out _ ?_ ?_
  · intro hc
    obtain ⟨e, he⟩ : ∃ e, e = checkF J n := ⟨_, rfl⟩
    rw [← he] at hc ⊢
    have HE := Hid.mk he
    clear he
    repeat' (first | exact tf0 ‹_› | exact tf1 ‹_› | exact False.elim ‹_› | (with_reducible refine Al.intro ?_; intro pb hpb; (try simp only [hupd_none'] at hpb); (repeat rcases hpb with ⟨⟨hpx, hpy⟩, hpb⟩)) | with_reducible refine need ?_ | ((with_reducible first | refine frk0 ?_ ?_ | refine frk1 ?_ ?_ | refine frk2 ?_ ?_ | refine frk3 ?_ ?_ | refine frk4 ?_ ?_ | refine frk5 ?_ ?_ | refine frk6 ?_ ?_ | refine frk7 ?_ ?_ | refine frk8 ?_ ?_ | refine frk9 ?_ ?_) <;> intro h <;> try (exfalso; omega)) | with_reducible refine quiet_and ?_ ?_ | with_reducible refine awp_drawnA mixed (by decide +kernel) ?_ | ((fail_if_success with_reducible refine stp ?_); simp -implicitDefEqProofs only [go_sem, Nat.reduceEqDiff, Nat.reduceAdd, Nat.reduceLT, Nat.reduceMul, Nat.reduceSub, Nat.reduceLeDiff, ↓reduceIte, reduceCtorEq, ↓String.reduceEq, String.reduceNe, Int.reduceToNat, Int.reduceLT, Int.reduceLE, Int.reduceGT, Int.reduceGE, Int.reduceEq, Int.reduceNe, Int.reduceBEq, Int.reduceBNe, Int.reduceAdd, Int.reduceSub, Int.reduceMul, Int.reduceNeg,  *]))
    exact ⟨_, Sub.refl _, by have := HB.out (by rw [← HE.out]; exact hc); rwa [← HE.out] at this⟩
  · intro hc S vo m1 hse hso hsub hfo
    have HR := Hid.mk (And.intro hc (And.intro hse (And.intro hso (And.intro hsub hfo))))
    have hlen : S.length = J.length := by have := hse.perm.length_eq; rw [List.length_map, idxJ_len] at this; exact this
    have HL := Hid.mk (And.intro hlen (checkF_len hc))
    have hvo := hso.slv
    clear hc hse hso hsub hfo hlen
    rcases hvo with ⟨rfl, hS⟩ | ⟨b, o, cap, rfl⟩
    · have HE := Hid.mk hS
      clear hS
      repeat' (first | exact tf0 ‹_› | exact tf1 ‹_› | exact False.elim ‹_› | (with_reducible refine Al.intro ?_; intro pb hpb; (try simp only [hupd_none'] at hpb); (repeat rcases hpb with ⟨⟨hpx, hpy⟩, hpb⟩)) | with_reducible refine need ?_ | ((with_reducible first | refine frk0 ?_ ?_ | refine frk1 ?_ ?_ | refine frk2 ?_ ?_ | refine frk3 ?_ ?_ | refine frk4 ?_ ?_ | refine frk5 ?_ ?_ | refine frk6 ?_ ?_ | refine frk7 ?_ ?_ | refine frk8 ?_ ?_ | refine frk9 ?_ ?_) <;> intro h <;> try (exfalso; omega)) | with_reducible refine quiet_and ?_ ?_ | with_reducible refine awp_drawnA mixed (by decide +kernel) ?_ | ((fail_if_success with_reducible refine stp ?_); simp -implicitDefEqProofs only [go_sem, Nat.reduceEqDiff, Nat.reduceAdd, Nat.reduceLT, Nat.reduceMul, Nat.reduceSub, Nat.reduceLeDiff, ↓reduceIte, reduceCtorEq, ↓String.reduceEq, String.reduceNe, Int.reduceToNat, Int.reduceLT, Int.reduceLE, Int.reduceGT, Int.reduceGE, Int.reduceEq, Int.reduceNe, Int.reduceBEq, Int.reduceBNe, Int.reduceAdd, Int.reduceSub, Int.reduceMul, Int.reduceNeg,  *]))
      refine awp_loopP 0 (fun ts m' => ts 8 = .nils ∧ m' = m1) (fun k ts m' => ts 8 = .nils ∧ ts 21 = .int .i64 0 ∧ ts 22 = .int .i64 0 ∧ m' = m1) 0 ⟨ttt, ttt, ttt, rfl⟩ ?_ ?_
      · rintro k ts m2 ⟨t8, t21, t22, hm2⟩
        subst m2
        repeat' (first | exact tf0 ‹_› | exact tf1 ‹_› | exact False.elim ‹_› | (with_reducible refine Al.intro ?_; intro pb hpb; (try simp only [hupd_none'] at hpb); (repeat rcases hpb with ⟨⟨hpx, hpy⟩, hpb⟩)) | with_reducible refine need ?_ | ((with_reducible first | refine frk0 ?_ ?_ | refine frk1 ?_ ?_ | refine frk2 ?_ ?_ | refine frk3 ?_ ?_ | refine frk4 ?_ ?_ | refine frk5 ?_ ?_ | refine frk6 ?_ ?_ | refine frk7 ?_ ?_ | refine frk8 ?_ ?_ | refine frk9 ?_ ?_) <;> intro h <;> try (exfalso; omega)) | with_reducible refine quiet_and ?_ ?_ | with_reducible refine awp_drawnA mixed (by decide +kernel) ?_ | ((fail_if_success with_reducible refine stp ?_); simp -implicitDefEqProofs only [go_sem, Nat.reduceEqDiff, Nat.reduceAdd, Nat.reduceLT, Nat.reduceMul, Nat.reduceSub, Nat.reduceLeDiff, ↓reduceIte, reduceCtorEq, ↓String.reduceEq, String.reduceNe, Int.reduceToNat, Int.reduceLT, Int.reduceLE, Int.reduceGT, Int.reduceGE, Int.reduceEq, Int.reduceNe, Int.reduceBEq, Int.reduceBNe, Int.reduceAdd, Int.reduceSub, Int.reduceMul, Int.reduceNeg,  *]))
        exact Again.intro ⟨(by first | (simp only [upd, put, Nat.reduceEqDiff, ↓reduceIte, t8]; done) | (simp [upd, put, t8]; done) | rfl | (simp [upd, put, t8]; rfl)), rfl⟩
      · rintro ts m2 ⟨t8, hm2⟩
        subst m2
        repeat' (first | exact tf0 ‹_› | exact tf1 ‹_› | exact False.elim ‹_› | (with_reducible refine Al.intro ?_; intro pb hpb; (try simp only [hupd_none'] at hpb); (repeat rcases hpb with ⟨⟨hpx, hpy⟩, hpb⟩)) | with_reducible refine need ?_ | ((with_reducible first | refine frk0 ?_ ?_ | refine frk1 ?_ ?_ | refine frk2 ?_ ?_ | refine frk3 ?_ ?_ | refine frk4 ?_ ?_ | refine frk5 ?_ ?_ | refine frk6 ?_ ?_ | refine frk7 ?_ ?_ | refine frk8 ?_ ?_ | refine frk9 ?_ ?_) <;> intro h <;> try (exfalso; omega)) | with_reducible refine quiet_and ?_ ?_ | with_reducible refine awp_drawnA mixed (by decide +kernel) ?_ | ((fail_if_success with_reducible refine stp ?_); simp -implicitDefEqProofs only [go_sem, Nat.reduceEqDiff, Nat.reduceAdd, Nat.reduceLT, Nat.reduceMul, Nat.reduceSub, Nat.reduceLeDiff, ↓reduceIte, reduceCtorEq, ↓String.reduceEq, String.reduceNe, Int.reduceToNat, Int.reduceLT, Int.reduceLE, Int.reduceGT, Int.reduceGE, Int.reduceEq, Int.reduceNe, Int.reduceBEq, Int.reduceBNe, Int.reduceAdd, Int.reduceSub, Int.reduceMul, Int.reduceNeg,  *]))
        refine sortI_spec G [] (by simp) .nils _ (.inl ⟨rfl, rfl⟩) _ ?_
        intro m3 h1 h2
        have HF := Hid.mk (And.intro h1 h2)
        clear h1 h2
        repeat' (first | exact tf0 ‹_› | exact tf1 ‹_› | exact False.elim ‹_› | (with_reducible refine Al.intro ?_; intro pb hpb; (try simp only [hupd_none'] at hpb); (repeat rcases hpb with ⟨⟨hpx, hpy⟩, hpb⟩)) | with_reducible refine need ?_ | ((with_reducible first | refine frk0 ?_ ?_ | refine frk1 ?_ ?_ | refine frk2 ?_ ?_ | refine frk3 ?_ ?_ | refine frk4 ?_ ?_ | refine frk5 ?_ ?_ | refine frk6 ?_ ?_ | refine frk7 ?_ ?_ | refine frk8 ?_ ?_ | refine frk9 ?_ ?_) <;> intro h <;> try (exfalso; omega)) | with_reducible refine quiet_and ?_ ?_ | with_reducible refine awp_drawnA mixed (by decide +kernel) ?_ | ((fail_if_success with_reducible refine stp ?_); simp -implicitDefEqProofs only [go_sem, Nat.reduceEqDiff, Nat.reduceAdd, Nat.reduceLT, Nat.reduceMul, Nat.reduceSub, Nat.reduceLeDiff, ↓reduceIte, reduceCtorEq, ↓String.reduceEq, String.reduceNe, Int.reduceToNat, Int.reduceLT, Int.reduceLE, Int.reduceGT, Int.reduceGE, Int.reduceEq, Int.reduceNe, Int.reduceBEq, Int.reduceBNe, Int.reduceAdd, Int.reduceSub, Int.reduceMul, Int.reduceNeg,  *]))
        refine ⟨_, Sub.refl _, ?_⟩
        (try rw [t8])
        obtain ⟨r1, r2, r3, r4, r5⟩ := HR.out
        exact HK.out r1 S .nils _ r2 (by rw [HE.out]; exact HF.out.1) (fun x y hx => by rw [HF.out.2 x (by simp [bOf])]; exact r4 x y hx) (by simp [bOf])
    · obtain ⟨L, hL⟩ : ∃ L, L = S.length := ⟨_, rfl⟩
      have H0 := Hid.mk hL
      rw [← hL] at HR
      rw [← hL]
      clear hL
      repeat' (first | exact tf0 ‹_› | exact tf1 ‹_› | exact False.elim ‹_› | (with_reducible refine Al.intro ?_; intro pb hpb; (try simp only [hupd_none'] at hpb); (repeat rcases hpb with ⟨⟨hpx, hpy⟩, hpb⟩)) | with_reducible refine need ?_ | ((with_reducible first | refine frk0 ?_ ?_ | refine frk1 ?_ ?_ | refine frk2 ?_ ?_ | refine frk3 ?_ ?_ | refine frk4 ?_ ?_ | refine frk5 ?_ ?_ | refine frk6 ?_ ?_ | refine frk7 ?_ ?_ | refine frk8 ?_ ?_ | refine frk9 ?_ ?_) <;> intro h <;> try (exfalso; omega)) | with_reducible refine quiet_and ?_ ?_ | with_reducible refine awp_drawnA mixed (by decide +kernel) ?_ | ((fail_if_success with_reducible refine stp ?_); simp -implicitDefEqProofs only [go_sem, Nat.reduceEqDiff, Nat.reduceAdd, Nat.reduceLT, Nat.reduceMul, Nat.reduceSub, Nat.reduceLeDiff, ↓reduceIte, reduceCtorEq, ↓String.reduceEq, String.reduceNe, Int.reduceToNat, Int.reduceLT, Int.reduceLE, Int.reduceGT, Int.reduceGE, Int.reduceEq, Int.reduceNe, Int.reduceBEq, Int.reduceBNe, Int.reduceAdd, Int.reduceSub, Int.reduceMul, Int.reduceNeg,  *]))
      refine awp_loopP 0 (fun ts m' => ∃ v : AVal, Hid (SlM encN 1 (latesOf S) v m' ∧ Sub m m' ∧ ∀ x, bOf v = some x → m x = none) ∧ ts 8 = v)
        (fun k ts m' => ∃ (v : AVal) (i : Nat), Hid (k = L - i ∧ i ≤ L ∧ SlM encN 1 (latesOf (S.take i)) v m' ∧ Sub m1 m' ∧ ∀ x, bOf v = some x → m1 x = none) ∧ ts 0 = vj ∧ ts 8 = v ∧ ts 20 = .slice b o L cap ∧ ts 21 = .int .i64 L ∧ ts 22 = .int .i64 (i : Nat)) L
        ⟨.nils, 0, .mk ⟨rfl, Nat.zero_le _, .inl ⟨rfl, rfl⟩, Sub.refl _, by simp [bOf]⟩, ttt, ttt, ttt, ttt, ttt⟩ ?_ ?_
      · rintro k ts m2 ⟨v, i, H, t0, t8, t20, t21, t22⟩
        by_cases hi : i < L
        · have lt : (i : Int) < (L : Int) := by omega
          have hiS : i < S.length := by have := H0.out; omega
          obtain ⟨x, hx⟩ : ∃ x, S.getD i default = x := ⟨_, rfl⟩
          obtain ⟨pre, post, N, rfl, -, hrow, -, -⟩ := slm_slice HR.out.2.2.1
          have hrow2 := H.out.2.2.2.1 _ _ hrow
          have hxm : x.1 ∈ idxJ J := HR.out.2.1.perm.mem_iff.1 (List.mem_map_of_mem (by rw [← hx]; exact getD_mem S i hiS))
          obtain ⟨c, hc, hxe⟩ := mem_idx.1 hxm
          obtain ⟨⟨y, at_⟩, t⟩ := x
          injection hxe with he1 he2
          subst he2
          have hjw : (∃ bj prej postj Nj capj, m bj = some (.cells (prej ++ (J.flatMap encJc ++ postj)) Nj) ∧ vj = .slice bj prej.length J.length capj) ∨ vj = .list 4 (J.map encJ) := by
            rcases HS.out with h | h
            · obtain ⟨bj, prej, postj, Nj, capj, hj, hvj, -, -⟩ := h.at' (by omega)
              exact .inl ⟨bj, prej, postj, Nj, capj, hj, hvj⟩
            · exact .inr h
          rcases hjw with ⟨bj, prej, postj, Nj, capj, hj, hvj⟩ | hvj
          · have hj2 := H.out.2.2.2.1 _ _ (HR.out.2.2.2.1 _ _ hj)
            have g1 := st_at S pre post i hiS _ hx
            have l1 := st_len S pre post i hiS
            have g2 := j_due J prej postj c hc y he1.symm
            have l2 := j_len J prej postj c hc
            have nl := neL hrow2
            have nr := neR hrow2
            have nl2 := neL hj2
            have nr2 := neR hj2
            have lc : (c : Int) < (J.length : Int) := by omega
            have w1 : IntKind.i64.wrap ((i : Int) + 1) = ((i + 1 : Nat) : Int) := by have := HL.out; have := H0.out; rw [wrap_i64 (by omega) (by omega)]; omega
            have hst := latesOf_take S i hiS
            rw [hx] at hst
            have HX := Hid.mk (And.intro hst (And.intro hc (And.intro he1 hvj)))
            have T0 := t0
            rw [hvj] at T0
            have TT := Hid.mk t0
            clear hx hrow hst hiS hxm hc he1 hvj hj t0
            by_cases hq : y.2.2.1 < t + y.2.2.2
            · have hlx : lateX ((y, (c : Int)), t) = true := decide_eq_true hq
              have HQ := Hid.mk hlx
              clear hlx
              repeat' (first | exact tf0 ‹_› | exact tf1 ‹_› | exact False.elim ‹_› | (with_reducible refine Al.intro ?_; intro pb hpb; (try simp only [hupd_none'] at hpb); (repeat rcases hpb with ⟨⟨hpx, hpy⟩, hpb⟩)) | with_reducible refine need ?_ | ((with_reducible first | refine frk0 ?_ ?_ | refine frk1 ?_ ?_ | refine frk2 ?_ ?_ | refine frk3 ?_ ?_ | refine frk4 ?_ ?_ | refine frk5 ?_ ?_ | refine frk6 ?_ ?_ | refine frk7 ?_ ?_ | refine frk8 ?_ ?_ | refine frk9 ?_ ?_) <;> intro h <;> try (exfalso; omega)) | with_reducible refine quiet_and ?_ ?_ | with_reducible refine awp_drawnA mixed (by decide +kernel) ?_ | ((fail_if_success with_reducible refine stp ?_); simp -implicitDefEqProofs only [go_sem, Nat.reduceEqDiff, Nat.reduceAdd, Nat.reduceLT, Nat.reduceMul, Nat.reduceSub, Nat.reduceLeDiff, ↓reduceIte, reduceCtorEq, ↓String.reduceEq, String.reduceNe, Int.reduceToNat, Int.reduceLT, Int.reduceLE, Int.reduceGT, Int.reduceGE, Int.reduceEq, Int.reduceNe, Int.reduceBEq, Int.reduceBNe, Int.reduceAdd, Int.reduceSub, Int.reduceMul, Int.reduceNeg,  *]))
              rename_i q1 hq1
              have hq1 : m2 q1 = none := hq1
              refine app1 (enc := encN) (sz := 1) (C := latesOf (S.take i)) (x := (c : Int)) Try.underlying31 tk_3 eb_3 zl_3 (by decide) (by rw [Try.underlying31]; rfl) (by unfold isInt; rw [Try.underlying31]) encN_len rfl ⟨1, by rw [hupd_at, if_pos rfl]⟩ ((H.out.2.2.1.fresh hq1).fresh (by rw [hupd_ne hpx]; exact hpb)) (by have := HL.out; have := H0.out; have := latesOf_len (S.take i); have := List.length_take_le i S; omega) (fun v2 m6 h1 h2 => ?_)
              obtain ⟨k1, k2⟩ := h2.sub (mb := m1) (subTrans H.out.2.2.2.1 (subTrans (Sub.fresh (Sub.refl _) hq1) (Sub.fresh (Sub.refl _) (by rw [hupd_ne hpx]; exact hpb)))) H.out.2.2.2.2
              have HN := Hid.mk (And.intro h1 (And.intro k1 k2))
              clear h1 h2 k1 k2
              have t0 := TT.out
              clear T0
              repeat' (first | exact tf0 ‹_› | exact tf1 ‹_› | exact False.elim ‹_› | (with_reducible refine Al.intro ?_; intro pb hpb; (try simp only [hupd_none'] at hpb); (repeat rcases hpb with ⟨⟨hpx, hpy⟩, hpb⟩)) | with_reducible refine need ?_ | ((with_reducible first | refine frk0 ?_ ?_ | refine frk1 ?_ ?_ | refine frk2 ?_ ?_ | refine frk3 ?_ ?_ | refine frk4 ?_ ?_ | refine frk5 ?_ ?_ | refine frk6 ?_ ?_ | refine frk7 ?_ ?_ | refine frk8 ?_ ?_ | refine frk9 ?_ ?_) <;> intro h <;> try (exfalso; omega)) | with_reducible refine quiet_and ?_ ?_ | with_reducible refine awp_drawnA mixed (by decide +kernel) ?_ | ((fail_if_success with_reducible refine stp ?_); simp -implicitDefEqProofs only [go_sem, Nat.reduceEqDiff, Nat.reduceAdd, Nat.reduceLT, Nat.reduceMul, Nat.reduceSub, Nat.reduceLeDiff, ↓reduceIte, reduceCtorEq, ↓String.reduceEq, String.reduceNe, Int.reduceToNat, Int.reduceLT, Int.reduceLE, Int.reduceGT, Int.reduceGE, Int.reduceEq, Int.reduceNe, Int.reduceBEq, Int.reduceBNe, Int.reduceAdd, Int.reduceSub, Int.reduceMul, Int.reduceNeg,  *]))
              exact Again.intro ⟨L - (i + 1), by have := H.out; omega, _, Sub.refl _, v2, i + 1, .mk ⟨rfl, by omega, by rw [HX.out.1, if_pos HQ.out]; exact HN.out.1, HN.out.2.1, HN.out.2.2⟩, (by first | (simp only [upd, put, Nat.reduceEqDiff, ↓reduceIte, t0]; done) | (simp [upd, put, t0]; done) | rfl | (simp [upd, put, t0]; rfl)), ttt, (by first | (simp only [upd, put, Nat.reduceEqDiff, ↓reduceIte, t20]; done) | (simp [upd, put, t20]; done) | rfl | (simp [upd, put, t20]; rfl)), (by first | (simp only [upd, put, Nat.reduceEqDiff, ↓reduceIte, t21]; done) | (simp [upd, put, t21]; done) | rfl | (simp [upd, put, t21]; rfl)), ttt⟩
            · have hlx : lateX ((y, (c : Int)), t) = false := decide_eq_false hq
              have HQ := Hid.mk hlx
              clear hlx
              repeat' (first | exact tf0 ‹_› | exact tf1 ‹_› | exact False.elim ‹_› | (with_reducible refine Al.intro ?_; intro pb hpb; (try simp only [hupd_none'] at hpb); (repeat rcases hpb with ⟨⟨hpx, hpy⟩, hpb⟩)) | with_reducible refine need ?_ | ((with_reducible first | refine frk0 ?_ ?_ | refine frk1 ?_ ?_ | refine frk2 ?_ ?_ | refine frk3 ?_ ?_ | refine frk4 ?_ ?_ | refine frk5 ?_ ?_ | refine frk6 ?_ ?_ | refine frk7 ?_ ?_ | refine frk8 ?_ ?_ | refine frk9 ?_ ?_) <;> intro h <;> try (exfalso; omega)) | with_reducible refine quiet_and ?_ ?_ | with_reducible refine awp_drawnA mixed (by decide +kernel) ?_ | ((fail_if_success with_reducible refine stp ?_); simp -implicitDefEqProofs only [go_sem, Nat.reduceEqDiff, Nat.reduceAdd, Nat.reduceLT, Nat.reduceMul, Nat.reduceSub, Nat.reduceLeDiff, ↓reduceIte, reduceCtorEq, ↓String.reduceEq, String.reduceNe, Int.reduceToNat, Int.reduceLT, Int.reduceLE, Int.reduceGT, Int.reduceGE, Int.reduceEq, Int.reduceNe, Int.reduceBEq, Int.reduceBNe, Int.reduceAdd, Int.reduceSub, Int.reduceMul, Int.reduceNeg,  *]))
              have t0 := TT.out
              exact Again.intro ⟨L - (i + 1), by have := H.out; omega, _, Sub.refl _, v, i + 1, .mk ⟨rfl, by omega, by rw [HX.out.1, HQ.out, if_neg (by simp), List.append_nil]; exact H.out.2.2.1.fresh hpb, subTrans H.out.2.2.2.1 (Sub.fresh (Sub.refl _) hpb), H.out.2.2.2.2⟩, (by first | (simp only [upd, put, Nat.reduceEqDiff, ↓reduceIte, t0]; done) | (simp [upd, put, t0]; done) | rfl | (simp [upd, put, t0]; rfl)), (by first | (simp only [upd, put, Nat.reduceEqDiff, ↓reduceIte, t8]; done) | (simp [upd, put, t8]; done) | rfl | (simp [upd, put, t8]; rfl)), (by first | (simp only [upd, put, Nat.reduceEqDiff, ↓reduceIte, t20]; done) | (simp [upd, put, t20]; done) | rfl | (simp [upd, put, t20]; rfl)), (by first | (simp only [upd, put, Nat.reduceEqDiff, ↓reduceIte, t21]; done) | (simp [upd, put, t21]; done) | rfl | (simp [upd, put, t21]; rfl)), ttt⟩
          · have g1 := st_at S pre post i hiS _ hx
            have l1 := st_len S pre post i hiS
            have g2 := lst_at J c hc y he1.symm
            have nl := neL hrow2
            have nr := neR hrow2
            have ll : (J.map encJ).length = J.length := List.length_map _
            have lc : (c : Int) < (J.length : Int) := by omega
            have w1 : IntKind.i64.wrap ((i : Int) + 1) = ((i + 1 : Nat) : Int) := by have := HL.out; have := H0.out; rw [wrap_i64 (by omega) (by omega)]; omega
            have hst := latesOf_take S i hiS
            rw [hx] at hst
            have HX := Hid.mk (And.intro hst (And.intro hc (And.intro he1 hvj)))
            have T0 := t0
            rw [hvj] at T0
            have TT := Hid.mk t0
            clear hx hrow hst hiS hxm hc he1 hvj t0
            by_cases hq : y.2.2.1 < t + y.2.2.2
            · have hlx : lateX ((y, (c : Int)), t) = true := decide_eq_true hq
              have HQ := Hid.mk hlx
              clear hlx
              repeat' (first | exact tf0 ‹_› | exact tf1 ‹_› | exact False.elim ‹_› | (with_reducible refine Al.intro ?_; intro pb hpb; (try simp only [hupd_none'] at hpb); (repeat rcases hpb with ⟨⟨hpx, hpy⟩, hpb⟩)) | with_reducible refine need ?_ | ((with_reducible first | refine frk0 ?_ ?_ | refine frk1 ?_ ?_ | refine frk2 ?_ ?_ | refine frk3 ?_ ?_ | refine frk4 ?_ ?_ | refine frk5 ?_ ?_ | refine frk6 ?_ ?_ | refine frk7 ?_ ?_ | refine frk8 ?_ ?_ | refine frk9 ?_ ?_) <;> intro h <;> try (exfalso; omega)) | with_reducible refine quiet_and ?_ ?_ | with_reducible refine awp_drawnA mixed (by decide +kernel) ?_ | ((fail_if_success with_reducible refine stp ?_); simp -implicitDefEqProofs only [go_sem, Nat.reduceEqDiff, Nat.reduceAdd, Nat.reduceLT, Nat.reduceMul, Nat.reduceSub, Nat.reduceLeDiff, ↓reduceIte, reduceCtorEq, ↓String.reduceEq, String.reduceNe, Int.reduceToNat, Int.reduceLT, Int.reduceLE, Int.reduceGT, Int.reduceGE, Int.reduceEq, Int.reduceNe, Int.reduceBEq, Int.reduceBNe, Int.reduceAdd, Int.reduceSub, Int.reduceMul, Int.reduceNeg,  *]))
              rename_i q1 hq1
              have hq1 : m2 q1 = none := hq1
              refine app1 (enc := encN) (sz := 1) (C := latesOf (S.take i)) (x := (c : Int)) Try.underlying31 tk_3 eb_3 zl_3 (by decide) (by rw [Try.underlying31]; rfl) (by unfold isInt; rw [Try.underlying31]) encN_len rfl ⟨1, by rw [hupd_at, if_pos rfl]⟩ ((H.out.2.2.1.fresh hq1).fresh (by rw [hupd_ne hpx]; exact hpb)) (by have := HL.out; have := H0.out; have := latesOf_len (S.take i); have := List.length_take_le i S; omega) (fun v2 m6 h1 h2 => ?_)
              obtain ⟨k1, k2⟩ := h2.sub (mb := m1) (subTrans H.out.2.2.2.1 (subTrans (Sub.fresh (Sub.refl _) hq1) (Sub.fresh (Sub.refl _) (by rw [hupd_ne hpx]; exact hpb)))) H.out.2.2.2.2
              have HN := Hid.mk (And.intro h1 (And.intro k1 k2))
              clear h1 h2 k1 k2
              have t0 := TT.out
              clear T0
              repeat' (first | exact tf0 ‹_› | exact tf1 ‹_› | exact False.elim ‹_› | (with_reducible refine Al.intro ?_; intro pb hpb; (try simp only [hupd_none'] at hpb); (repeat rcases hpb with ⟨⟨hpx, hpy⟩, hpb⟩)) | with_reducible refine need ?_ | ((with_reducible first | refine frk0 ?_ ?_ | refine frk1 ?_ ?_ | refine frk2 ?_ ?_ | refine frk3 ?_ ?_ | refine frk4 ?_ ?_ | refine frk5 ?_ ?_ | refine frk6 ?_ ?_ | refine frk7 ?_ ?_ | refine frk8 ?_ ?_ | refine frk9 ?_ ?_) <;> intro h <;> try (exfalso; omega)) | with_reducible refine quiet_and ?_ ?_ | with_reducible refine awp_drawnA mixed (by decide +kernel) ?_ | ((fail_if_success with_reducible refine stp ?_); simp -implicitDefEqProofs only [go_sem, Nat.reduceEqDiff, Nat.reduceAdd, Nat.reduceLT, Nat.reduceMul, Nat.reduceSub, Nat.reduceLeDiff, ↓reduceIte, reduceCtorEq, ↓String.reduceEq, String.reduceNe, Int.reduceToNat, Int.reduceLT, Int.reduceLE, Int.reduceGT, Int.reduceGE, Int.reduceEq, Int.reduceNe, Int.reduceBEq, Int.reduceBNe, Int.reduceAdd, Int.reduceSub, Int.reduceMul, Int.reduceNeg,  *]))
              exact Again.intro ⟨L - (i + 1), by have := H.out; omega, _, Sub.refl _, v2, i + 1, .mk ⟨rfl, by omega, by rw [HX.out.1, if_pos HQ.out]; exact HN.out.1, HN.out.2.1, HN.out.2.2⟩, (by first | (simp only [upd, put, Nat.reduceEqDiff, ↓reduceIte, t0]; done) | (simp [upd, put, t0]; done) | rfl | (simp [upd, put, t0]; rfl)), ttt, (by first | (simp only [upd, put, Nat.reduceEqDiff, ↓reduceIte, t20]; done) | (simp [upd, put, t20]; done) | rfl | (simp [upd, put, t20]; rfl)), (by first | (simp only [upd, put, Nat.reduceEqDiff, ↓reduceIte, t21]; done) | (simp [upd, put, t21]; done) | rfl | (simp [upd, put, t21]; rfl)), ttt⟩
            · have hlx : lateX ((y, (c : Int)), t) = false := decide_eq_false hq
              have HQ := Hid.mk hlx
              clear hlx
              repeat' (first | exact tf0 ‹_› | exact tf1 ‹_› | exact False.elim ‹_› | (with_reducible refine Al.intro ?_; intro pb hpb; (try simp only [hupd_none'] at hpb); (repeat rcases hpb with ⟨⟨hpx, hpy⟩, hpb⟩)) | with_reducible refine need ?_ | ((with_reducible first | refine frk0 ?_ ?_ | refine frk1 ?_ ?_ | refine frk2 ?_ ?_ | refine frk3 ?_ ?_ | refine frk4 ?_ ?_ | refine frk5 ?_ ?_ | refine frk6 ?_ ?_ | refine frk7 ?_ ?_ | refine frk8 ?_ ?_ | refine frk9 ?_ ?_) <;> intro h <;> try (exfalso; omega)) | with_reducible refine quiet_and ?_ ?_ | with_reducible refine awp_drawnA mixed (by decide +kernel) ?_ | ((fail_if_success with_reducible refine stp ?_); simp -implicitDefEqProofs only [go_sem, Nat.reduceEqDiff, Nat.reduceAdd, Nat.reduceLT, Nat.reduceMul, Nat.reduceSub, Nat.reduceLeDiff, ↓reduceIte, reduceCtorEq, ↓String.reduceEq, String.reduceNe, Int.reduceToNat, Int.reduceLT, Int.reduceLE, Int.reduceGT, Int.reduceGE, Int.reduceEq, Int.reduceNe, Int.reduceBEq, Int.reduceBNe, Int.reduceAdd, Int.reduceSub, Int.reduceMul, Int.reduceNeg,  *]))
              have t0 := TT.out
              exact Again.intro ⟨L - (i + 1), by have := H.out; omega, _, Sub.refl _, v, i + 1, .mk ⟨rfl, by omega, by rw [HX.out.1, HQ.out, if_neg (by simp), List.append_nil]; exact H.out.2.2.1.fresh hpb, subTrans H.out.2.2.2.1 (Sub.fresh (Sub.refl _) hpb), H.out.2.2.2.2⟩, (by first | (simp only [upd, put, Nat.reduceEqDiff, ↓reduceIte, t0]; done) | (simp [upd, put, t0]; done) | rfl | (simp [upd, put, t0]; rfl)), (by first | (simp only [upd, put, Nat.reduceEqDiff, ↓reduceIte, t8]; done) | (simp [upd, put, t8]; done) | rfl | (simp [upd, put, t8]; rfl)), (by first | (simp only [upd, put, Nat.reduceEqDiff, ↓reduceIte, t20]; done) | (simp [upd, put, t20]; done) | rfl | (simp [upd, put, t20]; rfl)), (by first | (simp only [upd, put, Nat.reduceEqDiff, ↓reduceIte, t21]; done) | (simp [upd, put, t21]; done) | rfl | (simp [upd, put, t21]; rfl)), ttt⟩
        · have lt : ¬ (i : Int) < (L : Int) := by omega
          repeat' (first | exact tf0 ‹_› | exact tf1 ‹_› | exact False.elim ‹_› | (with_reducible refine Al.intro ?_; intro pb hpb; (try simp only [hupd_none'] at hpb); (repeat rcases hpb with ⟨⟨hpx, hpy⟩, hpb⟩)) | with_reducible refine need ?_ | ((with_reducible first | refine frk0 ?_ ?_ | refine frk1 ?_ ?_ | refine frk2 ?_ ?_ | refine frk3 ?_ ?_ | refine frk4 ?_ ?_ | refine frk5 ?_ ?_ | refine frk6 ?_ ?_ | refine frk7 ?_ ?_ | refine frk8 ?_ ?_ | refine frk9 ?_ ?_) <;> intro h <;> try (exfalso; omega)) | with_reducible refine quiet_and ?_ ?_ | with_reducible refine awp_drawnA mixed (by decide +kernel) ?_ | ((fail_if_success with_reducible refine stp ?_); simp -implicitDefEqProofs only [go_sem, Nat.reduceEqDiff, Nat.reduceAdd, Nat.reduceLT, Nat.reduceMul, Nat.reduceSub, Nat.reduceLeDiff, ↓reduceIte, reduceCtorEq, ↓String.reduceEq, String.reduceNe, Int.reduceToNat, Int.reduceLT, Int.reduceLE, Int.reduceGT, Int.reduceGE, Int.reduceEq, Int.reduceNe, Int.reduceBEq, Int.reduceBNe, Int.reduceAdd, Int.reduceSub, Int.reduceMul, Int.reduceNeg,  *]))
          exact Again.intro ⟨v, .mk ⟨by have h := H.out; rw [List.take_of_length_le (by have := H0.out; omega)] at h; exact h.2.2.1, subTrans HR.out.2.2.2.1 H.out.2.2.2.1, fun x hx => HR.out.2.2.2.1.gone (H.out.2.2.2.2 x hx)⟩, (by first | (simp only [upd, put, Nat.reduceEqDiff, ↓reduceIte, t8]; done) | (simp [upd, put, t8]; done) | rfl | (simp [upd, put, t8]; rfl))⟩
      · rintro ts m2 ⟨v, H, t8⟩
        repeat' (first | exact tf0 ‹_› | exact tf1 ‹_› | exact False.elim ‹_› | (with_reducible refine Al.intro ?_; intro pb hpb; (try simp only [hupd_none'] at hpb); (repeat rcases hpb with ⟨⟨hpx, hpy⟩, hpb⟩)) | with_reducible refine need ?_ | ((with_reducible first | refine frk0 ?_ ?_ | refine frk1 ?_ ?_ | refine frk2 ?_ ?_ | refine frk3 ?_ ?_ | refine frk4 ?_ ?_ | refine frk5 ?_ ?_ | refine frk6 ?_ ?_ | refine frk7 ?_ ?_ | refine frk8 ?_ ?_ | refine frk9 ?_ ?_) <;> intro h <;> try (exfalso; omega)) | with_reducible refine quiet_and ?_ ?_ | with_reducible refine awp_drawnA mixed (by decide +kernel) ?_ | ((fail_if_success with_reducible refine stp ?_); simp -implicitDefEqProofs only [go_sem, Nat.reduceEqDiff, Nat.reduceAdd, Nat.reduceLT, Nat.reduceMul, Nat.reduceSub, Nat.reduceLeDiff, ↓reduceIte, reduceCtorEq, ↓String.reduceEq, String.reduceNe, Int.reduceToNat, Int.reduceLT, Int.reduceLE, Int.reduceGT, Int.reduceGE, Int.reduceEq, Int.reduceNe, Int.reduceBEq, Int.reduceBNe, Int.reduceAdd, Int.reduceSub, Int.reduceMul, Int.reduceNeg,  *]))
        refine sortI_spec G (latesOf S) (by have := latesOf_len S; have := HL.out; omega) v _ H.out.1 _ ?_
        intro m3 h1 h2
        have HF := Hid.mk (And.intro h1 h2)
        clear h1 h2
        repeat' (first | exact tf0 ‹_› | exact tf1 ‹_› | exact False.elim ‹_› | (with_reducible refine Al.intro ?_; intro pb hpb; (try simp only [hupd_none'] at hpb); (repeat rcases hpb with ⟨⟨hpx, hpy⟩, hpb⟩)) | with_reducible refine need ?_ | ((with_reducible first | refine frk0 ?_ ?_ | refine frk1 ?_ ?_ | refine frk2 ?_ ?_ | refine frk3 ?_ ?_ | refine frk4 ?_ ?_ | refine frk5 ?_ ?_ | refine frk6 ?_ ?_ | refine frk7 ?_ ?_ | refine frk8 ?_ ?_ | refine frk9 ?_ ?_) <;> intro h <;> try (exfalso; omega)) | with_reducible refine quiet_and ?_ ?_ | with_reducible refine awp_drawnA mixed (by decide +kernel) ?_ | ((fail_if_success with_reducible refine stp ?_); simp -implicitDefEqProofs only [go_sem, Nat.reduceEqDiff, Nat.reduceAdd, Nat.reduceLT, Nat.reduceMul, Nat.reduceSub, Nat.reduceLeDiff, ↓reduceIte, reduceCtorEq, ↓String.reduceEq, String.reduceNe, Int.reduceToNat, Int.reduceLT, Int.reduceLE, Int.reduceGT, Int.reduceGE, Int.reduceEq, Int.reduceNe, Int.reduceBEq, Int.reduceBNe, Int.reduceAdd, Int.reduceSub, Int.reduceMul, Int.reduceNeg,  *]))
        refine ⟨_, Sub.refl _, ?_⟩
        (try rw [t8])
        obtain ⟨r1, r2, r3, r4, r5⟩ := HR.out
        exact HK.out r1 S v _ r2 HF.out.1 (fun x y hx => by rw [HF.out.2 x (fun e => by rw [H.out.2.2 x e] at hx; cases hx)]; exact H.out.2.1 x y hx) H.out.2.2
end Go.Proofs.Ytmifapnmlhchlaa
