/- Rows handed in, copied; the document's table begun. Both tables tell the same. -/
import Derived.Test.YtdckcophbmnjjaaGreatDoorW26
set_option linter.all false
namespace Go.Proofs.YtdckcophbmnjjaaGreatDoor
open Go Go.Proofs.YtdckcophbmnjjaaGreatDoor.Ab
open Go.Proofs (Tryz.prog)
set_option maxRecDepth 100000
/-- A row that was handed in, behind a slice. -/
theorem appL {α : Type} {enc : α → List AVal} {sz : Nat} {f : α → AVal} {P : Program} {st xt e : TypeId} {a : Bool} {by' : Nat} {v : AVal} {m : Heap} {K : AVal → Heap → Prop} {C E : List α}
    (h1 : P.underlying st = some (.slice e)) (h2 : tk P e = some (a, sz)) (h3 : eb P e = some by') (h4 : zl P e = some sz) (h5 : 0 < by') (h6 : (P.underlying xt).isSome = true) (h7 : isInt P xt = false)
    (henc : ∀ a, (enc a).length = sz) (hf : ∀ a, (f a).cells = enc a) (hfl : (E.flatMap enc).all AVal.flat = true) (hs : SlM enc sz C v m) (hlen : (C.length + E.length) * by' ≤ 1099511627776)
    (hK : ∀ v' m', SlM enc sz (C ++ E) v' m' → AppFr v m v' m' → K v' m') : aappend P st xt v (.list sz (E.map f)) m K := by
  refine app_step h1 h2 h3 h4 h5 h6 h7 ?_
  simp only [src]
  have e1 : (E.map f).flatMap AVal.cells = E.flatMap enc := by
    rw [List.flatMap_map]
    congr 1; funext x; exact hf x
  refine ⟨trivial, ?_⟩
  rw [e1, List.length_map]
  refine ⟨hfl, ?_⟩
  by_cases h0 : 0 < E.length
  · refine app_to henc hs h0 hlen (fun b' v' blk hbf hv => hK v' _ (.inr ⟨b', blk, by simp [hupd], hv⟩) ⟨fun x hx hm => ?_, fun c hc => ?_⟩)
    · have : x ≠ b' := by
        rintro rfl
        rcases hbf with h | ⟨o, l, c, rfl⟩
        · exact hm h
        · exact hx rfl
      simp only [hupd]; rw [if_neg this]
    · obtain ⟨p1, p2, p3, p4, rfl, _⟩ := hv
      simp only [bOf, Option.some.injEq] at hc
      subst hc
      rcases hbf with h | ⟨o, l, c, rfl⟩
      · exact .inl h
      · exact .inr rfl
  · have hE : E = [] := List.eq_nil_of_length_eq_zero (by omega)
    subst hE
    rw [List.append_nil] at hK
    exact app_none henc hs hK
set_option maxHeartbeats 2000000 in
theorem cloneL_spec (G : Nat → AVal) (C : List Stm) (hC : C.length ≤ 1000000) (m : Heap) (K : AVal → Heap → Prop)
    (hK : ∀ v' m', SlM encSc 7 C v' m' → Sub m m' → (∀ c, bOf v' = some c → m c = none) → K v' m') : CallWP Tryz.prog G 17 [.list 7 (C.map encS)] m K := by
  have HK := Hid.mk (And.intro hK hC)
  clear hK
  cases C with
  | nil =>
    refine callWP_body Tryz.func17 rfl (N := 8) rfl (rs := [.tmp 2]) rfl en_17 (of_decide_eq_true rfl) ?_
    iterate 4 (try any_goals first | exact tf0 ‹_› | exact tf1 ‹_› | exact False.elim ‹_› | (with_reducible refine Al.intro ?_; intro pb hpb; (try simp only [hupd_none'] at hpb); (repeat rcases hpb with ⟨⟨hpx, hpy⟩, hpb⟩)) | with_reducible refine need ?_ | ((with_reducible first | apply frk0 | apply frk1 | apply frk2 | apply frk3 | apply frk4 | apply frk5 | apply frk6 | apply frk7 | apply frk8 | apply frk9) <;> intro h <;> try (exfalso; omega)) | with_reducible refine quiet_and ?_ ?_ | with_reducible refine awp_drawnA mixed (by decide +kernel) ?_ | ((fail_if_success with_reducible refine stp ?_); simp -implicitDefEqProofs only [go_sem, Nat.reduceEqDiff, Nat.reduceAdd, Nat.reduceLT, Nat.reduceMul, Nat.reduceSub, Nat.reduceLeDiff, ↓reduceIte, reduceCtorEq, ↓String.reduceEq, String.reduceNe, Int.reduceToNat, Int.reduceLT, Int.reduceLE, Int.reduceGT, Int.reduceGE, Int.reduceEq, Int.reduceNe, Int.reduceBEq, Int.reduceBNe, Int.reduceAdd, Int.reduceSub, Int.reduceMul, Int.reduceNeg,  aeqAny, List.map_nil, run_eff, *]))
    intro bb
    cases bb
    · repeat' (first | exact tf0 ‹_› | exact tf1 ‹_› | exact False.elim ‹_› | (with_reducible refine Al.intro ?_; intro pb hpb; (try simp only [hupd_none'] at hpb); (repeat rcases hpb with ⟨⟨hpx, hpy⟩, hpb⟩)) | with_reducible refine need ?_ | ((with_reducible first | apply frk0 | apply frk1 | apply frk2 | apply frk3 | apply frk4 | apply frk5 | apply frk6 | apply frk7 | apply frk8 | apply frk9) <;> intro h <;> try (exfalso; omega)) | with_reducible refine quiet_and ?_ ?_ | with_reducible refine awp_drawnA mixed (by decide +kernel) ?_ | ((fail_if_success with_reducible refine stp ?_); simp -implicitDefEqProofs only [go_sem, Nat.reduceEqDiff, Nat.reduceAdd, Nat.reduceLT, Nat.reduceMul, Nat.reduceSub, Nat.reduceLeDiff, ↓reduceIte, reduceCtorEq, ↓String.reduceEq, String.reduceNe, Int.reduceToNat, Int.reduceLT, Int.reduceLE, Int.reduceGT, Int.reduceGE, Int.reduceEq, Int.reduceNe, Int.reduceBEq, Int.reduceBNe, Int.reduceAdd, Int.reduceSub, Int.reduceMul, Int.reduceNeg,  *]))
      refine appL (enc := encSc) (sz := 7) (f := encS) (C := []) (E := []) Tryz.underlying22 tk_48 eb_48 zl_48 (by decide) (by rw [Tryz.underlying22]; rfl) (by unfold isInt; rw [Tryz.underlying22]) encSc_len (fun _ => rfl) (encSc_flat _) (.inr ⟨pb, .cells [] 0, (by rw [hupd_at, if_pos rfl]), [], [], 0, 0, rfl, rfl, Nat.le_refl _, Nat.le_refl _⟩) (by have := HK.out.2; simp only [List.length_nil, Nat.zero_add] at this ⊢; omega) (fun v2 m2 h1 h2 => ?_)
      obtain ⟨k1, k2⟩ := h2.sub (mb := m) ((Sub.refl _).fresh hpb) (fun c hc => by simp only [bOf, Option.some.injEq] at hc; subst hc; exact hpb)
      have HZ := Hid.mk (HK.out.1 v2 m2 h1 k1 k2)
      clear h1 h2 k1 k2
      repeat' (first | exact tf0 ‹_› | exact tf1 ‹_› | exact False.elim ‹_› | (with_reducible refine Al.intro ?_; intro pb hpb; (try simp only [hupd_none'] at hpb); (repeat rcases hpb with ⟨⟨hpx, hpy⟩, hpb⟩)) | with_reducible refine need ?_ | ((with_reducible first | apply frk0 | apply frk1 | apply frk2 | apply frk3 | apply frk4 | apply frk5 | apply frk6 | apply frk7 | apply frk8 | apply frk9) <;> intro h <;> try (exfalso; omega)) | with_reducible refine quiet_and ?_ ?_ | with_reducible refine awp_drawnA mixed (by decide +kernel) ?_ | ((fail_if_success with_reducible refine stp ?_); simp -implicitDefEqProofs only [go_sem, Nat.reduceEqDiff, Nat.reduceAdd, Nat.reduceLT, Nat.reduceMul, Nat.reduceSub, Nat.reduceLeDiff, ↓reduceIte, reduceCtorEq, ↓String.reduceEq, String.reduceNe, Int.reduceToNat, Int.reduceLT, Int.reduceLE, Int.reduceGT, Int.reduceGE, Int.reduceEq, Int.reduceNe, Int.reduceBEq, Int.reduceBNe, Int.reduceAdd, Int.reduceSub, Int.reduceMul, Int.reduceNeg,  *]))
      exact ⟨_, Sub.refl _, HZ.out⟩
    · repeat' (first | exact tf0 ‹_› | exact tf1 ‹_› | exact False.elim ‹_› | (with_reducible refine Al.intro ?_; intro pb hpb; (try simp only [hupd_none'] at hpb); (repeat rcases hpb with ⟨⟨hpx, hpy⟩, hpb⟩)) | with_reducible refine need ?_ | ((with_reducible first | apply frk0 | apply frk1 | apply frk2 | apply frk3 | apply frk4 | apply frk5 | apply frk6 | apply frk7 | apply frk8 | apply frk9) <;> intro h <;> try (exfalso; omega)) | with_reducible refine quiet_and ?_ ?_ | with_reducible refine awp_drawnA mixed (by decide +kernel) ?_ | ((fail_if_success with_reducible refine stp ?_); simp -implicitDefEqProofs only [go_sem, Nat.reduceEqDiff, Nat.reduceAdd, Nat.reduceLT, Nat.reduceMul, Nat.reduceSub, Nat.reduceLeDiff, ↓reduceIte, reduceCtorEq, ↓String.reduceEq, String.reduceNe, Int.reduceToNat, Int.reduceLT, Int.reduceLE, Int.reduceGT, Int.reduceGE, Int.reduceEq, Int.reduceNe, Int.reduceBEq, Int.reduceBNe, Int.reduceAdd, Int.reduceSub, Int.reduceMul, Int.reduceNeg,  *]))
      exact ⟨m, Sub.refl _, HK.out.1 _ _ (.inl ⟨rfl, rfl⟩) (Sub.refl _) (fun c hc => by cases hc)⟩
  | cons s C =>
    refine callWP_body Tryz.func17 rfl (N := 8) rfl (rs := [.tmp 2]) rfl en_17 (of_decide_eq_true rfl) ?_
    iterate 4 (try any_goals first | exact tf0 ‹_› | exact tf1 ‹_› | exact False.elim ‹_› | (with_reducible refine Al.intro ?_; intro pb hpb; (try simp only [hupd_none'] at hpb); (repeat rcases hpb with ⟨⟨hpx, hpy⟩, hpb⟩)) | with_reducible refine need ?_ | ((with_reducible first | apply frk0 | apply frk1 | apply frk2 | apply frk3 | apply frk4 | apply frk5 | apply frk6 | apply frk7 | apply frk8 | apply frk9) <;> intro h <;> try (exfalso; omega)) | with_reducible refine quiet_and ?_ ?_ | with_reducible refine awp_drawnA mixed (by decide +kernel) ?_ | ((fail_if_success with_reducible refine stp ?_); simp -implicitDefEqProofs only [go_sem, Nat.reduceEqDiff, Nat.reduceAdd, Nat.reduceLT, Nat.reduceMul, Nat.reduceSub, Nat.reduceLeDiff, ↓reduceIte, reduceCtorEq, ↓String.reduceEq, String.reduceNe, Int.reduceToNat, Int.reduceLT, Int.reduceLE, Int.reduceGT, Int.reduceGE, Int.reduceEq, Int.reduceNe, Int.reduceBEq, Int.reduceBNe, Int.reduceAdd, Int.reduceSub, Int.reduceMul, Int.reduceNeg,  *]))
    rw [← List.map_cons]
    refine appL (enc := encSc) (sz := 7) (f := encS) (C := []) (E := s :: C) Tryz.underlying22 tk_48 eb_48 zl_48 (by decide) (by rw [Tryz.underlying22]; rfl) (by unfold isInt; rw [Tryz.underlying22]) encSc_len (fun _ => rfl) (encSc_flat _) (.inr ⟨pb, .cells [] 0, (by rw [hupd_at, if_pos rfl]), [], [], 0, 0, rfl, rfl, Nat.le_refl _, Nat.le_refl _⟩) (by have := HK.out.2; simp only [List.length_nil, Nat.zero_add] at this ⊢; omega) (fun v2 m2 h1 h2 => ?_)
    obtain ⟨k1, k2⟩ := h2.sub (mb := m) ((Sub.refl _).fresh hpb) (fun c hc => by simp only [bOf, Option.some.injEq] at hc; subst hc; exact hpb)
    have HZ := Hid.mk (HK.out.1 v2 m2 h1 k1 k2)
    clear h1 h2 k1 k2
    repeat' (first | exact tf0 ‹_› | exact tf1 ‹_› | exact False.elim ‹_› | (with_reducible refine Al.intro ?_; intro pb hpb; (try simp only [hupd_none'] at hpb); (repeat rcases hpb with ⟨⟨hpx, hpy⟩, hpb⟩)) | with_reducible refine need ?_ | ((with_reducible first | apply frk0 | apply frk1 | apply frk2 | apply frk3 | apply frk4 | apply frk5 | apply frk6 | apply frk7 | apply frk8 | apply frk9) <;> intro h <;> try (exfalso; omega)) | with_reducible refine quiet_and ?_ ?_ | with_reducible refine awp_drawnA mixed (by decide +kernel) ?_ | ((fail_if_success with_reducible refine stp ?_); simp -implicitDefEqProofs only [go_sem, Nat.reduceEqDiff, Nat.reduceAdd, Nat.reduceLT, Nat.reduceMul, Nat.reduceSub, Nat.reduceLeDiff, ↓reduceIte, reduceCtorEq, ↓String.reduceEq, String.reduceNe, Int.reduceToNat, Int.reduceLT, Int.reduceLE, Int.reduceGT, Int.reduceGE, Int.reduceEq, Int.reduceNe, Int.reduceBEq, Int.reduceBNe, Int.reduceAdd, Int.reduceSub, Int.reduceMul, Int.reduceNeg,  *]))
    exact ⟨_, Sub.refl _, HZ.out⟩
theorem cloneR_spec (G : Nat → AVal) (C : List Stm) (hC : C.length ≤ 1000000) (v : AVal) (m : Heap) (hs : RdS C v m) (K : AVal → Heap → Prop)
    (hK : ∀ v' m', SlM encSc 7 C v' m' → Sub m m' → (∀ c, bOf v' = some c → m c = none) → K v' m') : CallWP Tryz.prog G 17 [v] m K := by
  rcases hs with h | rfl
  · exact clone_spec G C hC v m h K hK
  · exact cloneL_spec G C hC m K hK
set_option maxHeartbeats 2000000 in
theorem rnewE_spec (G : Nat → AVal) (C : List Stm) (hl : C.length < 9223372036854775808) (v : AVal) (m : Heap) (hs : RdS C v m) (K : AVal → Heap → Prop)
    (hbad : ∀ e, e ≠ 0 → e = chkE C 1 → K (.tuple [.nilp, .int .i64 e]) m)
    (hok : ∀ (R : Rtb) m', rightC C 1 → RRep R C [] m' → Sub m m' → (∀ c, R.own c → m c = none) → (∀ c, bOf R.vs = some c → m c = none) → K (.tuple [.ptr R.p 0, .int .i64 0]) m') : CallWP Tryz.prog G 6 [v] m K := by
  have HH := Hid.mk (And.intro hbad (And.intro hok (And.intro hs hl)))
  obtain ⟨b, pre, post, N, cap, hw⟩ := hs.ways rfl
  clear hs hbad hok hl
  rcases hw with ⟨hv, hz⟩ | ⟨hv, hb⟩ | hv
  all_goals (
    subst hv
    try (have HZ := Hid.mk hz)
    try clear hz
    refine callWP_body Tryz.func6 rfl (N := 19) rfl (rs := [.tmp 2, .tmp 3]) rfl en_6 (of_decide_eq_true rfl) ?_
    repeat' (first | exact tf0 ‹_› | exact tf1 ‹_› | exact False.elim ‹_› | (with_reducible refine Al.intro ?_; intro pb hpb; (try simp only [hupd_none'] at hpb); (repeat rcases hpb with ⟨⟨hpx, hpy⟩, hpb⟩)) | with_reducible refine need ?_ | ((with_reducible first | apply frk0 | apply frk1 | apply frk2 | apply frk3 | apply frk4 | apply frk5 | apply frk6 | apply frk7 | apply frk8 | apply frk9) <;> intro h <;> try (exfalso; omega)) | with_reducible refine quiet_and ?_ ?_ | with_reducible refine awp_drawnA mixed (by decide +kernel) ?_ | ((fail_if_success with_reducible refine stp ?_); simp -implicitDefEqProofs only [go_sem, Nat.reduceEqDiff, Nat.reduceAdd, Nat.reduceLT, Nat.reduceMul, Nat.reduceSub, Nat.reduceLeDiff, ↓reduceIte, reduceCtorEq, ↓String.reduceEq, String.reduceNe, Int.reduceToNat, Int.reduceLT, Int.reduceLE, Int.reduceGT, Int.reduceGE, Int.reduceEq, Int.reduceNe, Int.reduceBEq, Int.reduceBNe, Int.reduceAdd, Int.reduceSub, Int.reduceMul, Int.reduceNeg,  *]))
    refine check25E_spec G C HH.out.2.2.2 1 _ _ HH.out.2.2.1 _ (fun k e he => ?_)
    have HE := Hid.mk he
    clear he
    by_cases h0 : e = 0
    · have hr := (chkE_iff C 1).1 (HE.out.symm.trans h0)
      have HR := Hid.mk hr
      have l64 : C.length ≤ 64 := hr.1
      subst h0
      clear hr
      repeat' (first | exact tf0 ‹_› | exact tf1 ‹_› | exact False.elim ‹_› | (with_reducible refine Al.intro ?_; intro pb hpb; (try simp only [hupd_none'] at hpb); (repeat rcases hpb with ⟨⟨hpx, hpy⟩, hpb⟩)) | with_reducible refine need ?_ | ((with_reducible first | apply frk0 | apply frk1 | apply frk2 | apply frk3 | apply frk4 | apply frk5 | apply frk6 | apply frk7 | apply frk8 | apply frk9) <;> intro h <;> try (exfalso; omega)) | with_reducible refine quiet_and ?_ ?_ | with_reducible refine awp_drawnA mixed (by decide +kernel) ?_ | ((fail_if_success with_reducible refine stp ?_); simp -implicitDefEqProofs only [go_sem, Nat.reduceEqDiff, Nat.reduceAdd, Nat.reduceLT, Nat.reduceMul, Nat.reduceSub, Nat.reduceLeDiff, ↓reduceIte, reduceCtorEq, ↓String.reduceEq, String.reduceNe, Int.reduceToNat, Int.reduceLT, Int.reduceLE, Int.reduceGT, Int.reduceGE, Int.reduceEq, Int.reduceNe, Int.reduceBEq, Int.reduceBNe, Int.reduceAdd, Int.reduceSub, Int.reduceMul, Int.reduceNeg,  *]))
      have hfr : ∀ c, bOf (AVal.slice pb 0 0 0) = some c → m c = none := fun c hc => by simp only [bOf, Option.some.injEq] at hc; subst hc; exact hpb
      have hbase : SlM encSc 7 [] (.slice pb 0 0 0) (hupd m pb (.cells [] 0)) := .inr ⟨pb, .cells [] 0, (by rw [hupd_at, if_pos rfl]), [], [], 0, 0, rfl, rfl, Nat.le_refl _, Nat.le_refl _⟩
      have hrest : ∀ v2 m2, SlM encSc 7 ([] ++ C) v2 m2 → AppFr (.slice pb 0 0 0) (hupd m pb (.cells [] 0)) v2 m2 → Hid (SlM encSc 7 C v2 m2 ∧ Sub m m2 ∧ ∀ c, bOf v2 = some c → m c = none) := fun v2 m2 h1 h2 => .mk ⟨h1, h2.sub ((Sub.refl _).fresh hpb) hfr⟩
      have HB := Hid.mk (And.intro hbase hrest)
      clear hfr hbase hrest
      first
      | refine appL (enc := encSc) (sz := 7) (f := encS) (C := []) (E := C) Tryz.underlying22 tk_48 eb_48 zl_48 (by decide) (by rw [Tryz.underlying22]; rfl) (by unfold isInt; rw [Tryz.underlying22]) encSc_len (fun _ => rfl) (encSc_flat C) HB.out.1 (by simp only [List.length_nil, Nat.zero_add]; omega) (fun v2 m2 h1 h2 => ?_)
      | refine appV (enc := encSc) (sz := 7) (C := []) (E := C) Tryz.underlying22 tk_48 eb_48 zl_48 (by decide) (by rw [Tryz.underlying22]; rfl) (by unfold isInt; rw [Tryz.underlying22]) encSc_len (encSc_flat C) (.inl ⟨rfl, List.eq_nil_of_length_eq_zero HZ.out⟩) HB.out.1 (by simp only [List.length_nil, Nat.zero_add]; omega) (fun v2 m2 h1 h2 => ?_)
      | refine appN (enc := encSc) (sz := 7) (C := []) (E := C) (pre := pre) (post := post) (N := N) Tryz.underlying22 tk_48 eb_48 zl_48 (by decide) (by rw [Tryz.underlying22]; rfl) (by unfold isInt; rw [Tryz.underlying22]) encSc_len (encSc_flat C) (by rw [hupd_ne (seenB hb hpb)]; exact hb) HB.out.1 (by simp only [List.length_nil, Nat.zero_add]; omega) (fun v2 m2 h1 h2 => ?_)
      have HV := HB.out.2 v2 m2 h1 h2
      have hsv := HV.out.1.slv
      clear h1 h2 HB
      rcases hsv with ⟨hv2, -⟩ | ⟨b2, o2, c2, hv2⟩
      all_goals (
        subst hv2
        repeat' (first | exact tf0 ‹_› | exact tf1 ‹_› | exact False.elim ‹_› | (with_reducible refine Al.intro ?_; intro pb hpb; (try simp only [hupd_none'] at hpb); (repeat rcases hpb with ⟨⟨hpx, hpy⟩, hpb⟩)) | with_reducible refine need ?_ | ((with_reducible first | apply frk0 | apply frk1 | apply frk2 | apply frk3 | apply frk4 | apply frk5 | apply frk6 | apply frk7 | apply frk8 | apply frk9) <;> intro h <;> try (exfalso; omega)) | with_reducible refine quiet_and ?_ ?_ | with_reducible refine awp_drawnA mixed (by decide +kernel) ?_ | ((fail_if_success with_reducible refine stp ?_); simp -implicitDefEqProofs only [go_sem, Nat.reduceEqDiff, Nat.reduceAdd, Nat.reduceLT, Nat.reduceMul, Nat.reduceSub, Nat.reduceLeDiff, ↓reduceIte, reduceCtorEq, ↓String.reduceEq, String.reduceNe, Int.reduceToNat, Int.reduceLT, Int.reduceLE, Int.reduceGT, Int.reduceGE, Int.reduceEq, Int.reduceNe, Int.reduceBEq, Int.reduceBNe, Int.reduceAdd, Int.reduceSub, Int.reduceMul, Int.reduceNeg,  *]))
        rename_i qb hqb
        refine ⟨_, Sub.refl _, HH.out.2.1 ⟨pb, _, .nils⟩ _ HR.out ⟨by rw [hupd_at, if_pos rfl], HV.out.1.fresh hpb, .inl ⟨rfl, rfl⟩, fun e => slm_some HV.out.1 e hpb, (fun e => by cases e), fun c _ e => by cases e⟩ (HV.out.2.1.fresh (HV.out.2.1.gone hpb)) (fun c hc => ?_) HV.out.2.2⟩
        rcases hc with rfl | hc
        · exact HV.out.2.1.gone hpb
        · cases hc)
    · have hb0 : (e != 0) = true := by simpa using h0
      have HX := Hid.mk (HH.out.1 e h0 HE.out)
      clear h0
      repeat' (first | exact tf0 ‹_› | exact tf1 ‹_› | exact False.elim ‹_› | (with_reducible refine Al.intro ?_; intro pb hpb; (try simp only [hupd_none'] at hpb); (repeat rcases hpb with ⟨⟨hpx, hpy⟩, hpb⟩)) | with_reducible refine need ?_ | ((with_reducible first | apply frk0 | apply frk1 | apply frk2 | apply frk3 | apply frk4 | apply frk5 | apply frk6 | apply frk7 | apply frk8 | apply frk9) <;> intro h <;> try (exfalso; omega)) | with_reducible refine quiet_and ?_ ?_ | with_reducible refine awp_drawnA mixed (by decide +kernel) ?_ | ((fail_if_success with_reducible refine stp ?_); simp -implicitDefEqProofs only [go_sem, Nat.reduceEqDiff, Nat.reduceAdd, Nat.reduceLT, Nat.reduceMul, Nat.reduceSub, Nat.reduceLeDiff, ↓reduceIte, reduceCtorEq, ↓String.reduceEq, String.reduceNe, Int.reduceToNat, Int.reduceLT, Int.reduceLE, Int.reduceGT, Int.reduceGE, Int.reduceEq, Int.reduceNe, Int.reduceBEq, Int.reduceBNe, Int.reduceAdd, Int.reduceSub, Int.reduceMul, Int.reduceNeg,  *]))
      exact ⟨_, Sub.refl _, HX.out⟩)
end Go.Proofs.YtdckcophbmnjjaaGreatDoor
namespace Go.Proofs.YtdckcophbmnjjaaGreatDoor
open Go Go.Proofs.YtdckcophbmnjjaaGreatDoor.Ab
open Go.Proofs (Tryz.prog)
set_option maxRecDepth 100000
set_option maxHeartbeats 4000000 in
theorem same34_spec (G : Nat → AVal) (T : Tab) (R : Rtb) (C : List Stm) (L : List Ntd) (hC : C.length ≤ 1000) (hL : L.length ≤ 100000) (hg : GoodL C L) (ha : GoodA L) (hpos : ∀ s ∈ C, 0 ≤ s.1) (id : Int) (h0 : 0 ≤ id) (m : Heap) (hT : Rep T C L m) (hR : RRep R C L m) :
    CallWP Tryz.prog G 13 [.ptr T.tb 0, .ptr R.p 0, .int .i64 id] m fun w m' => w = .bool true ∧ m' = m := by
  have HW1 := Hid.mk (fun m' (s : Sub m m') => worst_spec G T C L hC m' (hT.into s))
  have HW2 := Hid.mk (fun m' (s : Sub m m') => rtworst_spec G R C L hC hL hg ha hpos m' (hR.into s))
  have HT1 := Hid.mk (fun m' (s : Sub m m') => total_spec G T C L m' (hT.into s))
  have HT2 := Hid.mk (fun m' (s : Sub m m') => rtTotal_spec G R C L hL hg ha m' (hR.into s))
  have HQ1 := Hid.mk (fun f m' (s : Sub m m') => ratio_spec G T C L hL id f m' (hT.into s))
  have HQ2 := Hid.mk (fun f m' (s : Sub m m') => rtratio_spec G R C L hC hL hg ha id f h0 m' (hR.into s))
  have HO1 := Hid.mk (fun m' (s : Sub m m') => open_spec G T C L hL m' (hT.into s))
  have HO2 := Hid.mk (fun m' (s : Sub m m') => rtopen_spec G R C L hL m' (hR.into s))
  have hol : (srtI (opensL L)).length ≤ 100000 := by
    have h1 := (List.mergeSort_perm (opensL L) fun x y => decide (x ≤ y)).length_eq
    unfold srtI; rw [h1]
    unfold opensL; rw [List.length_map]; exact Nat.le_trans (List.length_filter_le _ _) hL
  have HOL := Hid.mk hol
  obtain ⟨X, hX⟩ : ∃ X, srtI (opensL L) = X := ⟨_, rfl⟩
  rw [hX] at HOL HO1 HO2
  have hrow : ∃ (r : RowT) (i2 : Int) (ok : Bool), Hid ((∀ m', Sub m m' → CallWP Tryz.prog G 20 [.ptr T.tb 0, .int .i64 id] m' fun w m2 => w = .tuple [rowVal i2 r, .bool ok] ∧ m2 = m') ∧ ∀ m', Sub m m' → CallWP Tryz.prog G 33 [.ptr R.p 0, .int .i64 id] m' fun w m2 => w = .tuple [rowVal i2 r, .bool ok] ∧ m2 = m') := by
    by_cases hid : ∃ s ∈ C, s.1 = id
    · exact ⟨_, _, _, .mk ⟨fun m' s => trow_spec G T C L id hid m' (hT.into s), fun m' s => rtRow_spec G R C L hC hL hg ha id h0 hid m' (hR.into s)⟩⟩
    · have hno : ∀ s ∈ C, s.1 ≠ id := fun s hs e => hid ⟨s, hs, e⟩
      exact ⟨_, _, _, .mk ⟨fun m' s => trow_none G T C L id hno m' (hT.into s), fun m' s => rtRow_none G R C L hC id hno m' (hR.into s)⟩⟩
  obtain ⟨r, i2, ok, HRW⟩ := hrow
  obtain ⟨tk, ⟨f0, f1, f2, f3, f4, f5⟩, wo, be, so⟩ := r
  obtain ⟨⟨wa, wb⟩, hw⟩ : ∃ w, worstF L C = w := ⟨_, rfl⟩
  rw [hw] at HW1 HW2
  obtain ⟨ra, hra⟩ : ∃ w, rowOf pAll L = w := ⟨_, rfl⟩
  rw [hra] at HT1 HT2
  obtain ⟨uk, ⟨g0, g1, g2, g3, g4, g5⟩, uo, ue, us⟩ := ra
  obtain ⟨qf, hqf⟩ : ∃ q : Int → Int, (fun f => ratioF id C L f) = q := ⟨_, rfl⟩
  have hqf2 : ∀ f, ratioF id C L f = qf f := fun f => congrFun hqf f
  simp only [hqf2] at HQ1 HQ2
  obtain ⟨tb, tv, trm, tfm, trb⟩ := T
  obtain ⟨rp, rvs, rvl⟩ := R
  simp only at HW1 HW2 HT1 HT2 HQ1 HQ2 HO1 HO2 HRW
  clear hC hL hg ha hpos h0 hT hR hol hX hw hra hqf hqf2
  refine callWP_body Tryz.func13 rfl (N := 89) rfl (rs := [.tmp 6]) rfl en_13 (of_decide_eq_true rfl) ?_
  repeat' (first | exact tf0 ‹_› | exact tf1 ‹_› | exact False.elim ‹_› | (with_reducible refine Al.intro ?_; intro pb hpb; (try simp only [hupd_none'] at hpb); (repeat rcases hpb with ⟨⟨hpx, hpy⟩, hpb⟩)) | with_reducible refine need ?_ | ((with_reducible first | apply frk0 | apply frk1 | apply frk2 | apply frk3 | apply frk4 | apply frk5 | apply frk6 | apply frk7 | apply frk8 | apply frk9) <;> intro h <;> try (exfalso; omega)) | with_reducible refine quiet_and ?_ ?_ | with_reducible refine awp_drawnA mixed (by decide +kernel) ?_ | ((fail_if_success with_reducible refine stp ?_); simp -implicitDefEqProofs only [go_sem, Nat.reduceEqDiff, Nat.reduceAdd, Nat.reduceLT, Nat.reduceMul, Nat.reduceSub, Nat.reduceLeDiff, ↓reduceIte, reduceCtorEq, ↓String.reduceEq, String.reduceNe, Int.reduceToNat, Int.reduceLT, Int.reduceLE, Int.reduceGT, Int.reduceGE, Int.reduceEq, Int.reduceNe, Int.reduceBEq, Int.reduceBNe, Int.reduceAdd, Int.reduceSub, Int.reduceMul, Int.reduceNeg,  *]))
  refine CallWP.to (HRW.out.1 _ (by (repeat refine Sub.fresh ?_ (by assumption)); exact Sub.refl _)) ?_
  repeat' (first | exact tf0 ‹_› | exact tf1 ‹_› | exact False.elim ‹_› | (with_reducible refine Al.intro ?_; intro pb hpb; (try simp only [hupd_none'] at hpb); (repeat rcases hpb with ⟨⟨hpx, hpy⟩, hpb⟩)) | with_reducible refine need ?_ | ((with_reducible first | apply frk0 | apply frk1 | apply frk2 | apply frk3 | apply frk4 | apply frk5 | apply frk6 | apply frk7 | apply frk8 | apply frk9) <;> intro h <;> try (exfalso; omega)) | with_reducible refine quiet_and ?_ ?_ | with_reducible refine awp_drawnA mixed (by decide +kernel) ?_ | ((fail_if_success with_reducible refine stp ?_); simp -implicitDefEqProofs only [go_sem, Nat.reduceEqDiff, Nat.reduceAdd, Nat.reduceLT, Nat.reduceMul, Nat.reduceSub, Nat.reduceLeDiff, ↓reduceIte, reduceCtorEq, ↓String.reduceEq, String.reduceNe, Int.reduceToNat, Int.reduceLT, Int.reduceLE, Int.reduceGT, Int.reduceGE, Int.reduceEq, Int.reduceNe, Int.reduceBEq, Int.reduceBNe, Int.reduceAdd, Int.reduceSub, Int.reduceMul, Int.reduceNeg,  rowVal, *]))
  refine CallWP.to (HRW.out.2 _ (by (repeat refine Sub.fresh ?_ (by assumption)); exact Sub.refl _)) ?_
  repeat' (first | exact tf0 ‹_› | exact tf1 ‹_› | exact False.elim ‹_› | (with_reducible refine Al.intro ?_; intro pb hpb; (try simp only [hupd_none'] at hpb); (repeat rcases hpb with ⟨⟨hpx, hpy⟩, hpb⟩)) | with_reducible refine need ?_ | ((with_reducible first | apply frk0 | apply frk1 | apply frk2 | apply frk3 | apply frk4 | apply frk5 | apply frk6 | apply frk7 | apply frk8 | apply frk9) <;> intro h <;> try (exfalso; omega)) | with_reducible refine quiet_and ?_ ?_ | with_reducible refine awp_drawnA mixed (by decide +kernel) ?_ | ((fail_if_success with_reducible refine stp ?_); simp -implicitDefEqProofs only [go_sem, Nat.reduceEqDiff, Nat.reduceAdd, Nat.reduceLT, Nat.reduceMul, Nat.reduceSub, Nat.reduceLeDiff, ↓reduceIte, reduceCtorEq, ↓String.reduceEq, String.reduceNe, Int.reduceToNat, Int.reduceLT, Int.reduceLE, Int.reduceGT, Int.reduceGE, Int.reduceEq, Int.reduceNe, Int.reduceBEq, Int.reduceBNe, Int.reduceAdd, Int.reduceSub, Int.reduceMul, Int.reduceNeg,  rowVal, *]))
  refine CallWP.to (HW1.out _ (by (repeat refine Sub.fresh ?_ (by assumption)); exact Sub.refl _)) ?_
  repeat' (first | exact tf0 ‹_› | exact tf1 ‹_› | exact False.elim ‹_› | (with_reducible refine Al.intro ?_; intro pb hpb; (try simp only [hupd_none'] at hpb); (repeat rcases hpb with ⟨⟨hpx, hpy⟩, hpb⟩)) | with_reducible refine need ?_ | ((with_reducible first | apply frk0 | apply frk1 | apply frk2 | apply frk3 | apply frk4 | apply frk5 | apply frk6 | apply frk7 | apply frk8 | apply frk9) <;> intro h <;> try (exfalso; omega)) | with_reducible refine quiet_and ?_ ?_ | with_reducible refine awp_drawnA mixed (by decide +kernel) ?_ | ((fail_if_success with_reducible refine stp ?_); simp -implicitDefEqProofs only [go_sem, Nat.reduceEqDiff, Nat.reduceAdd, Nat.reduceLT, Nat.reduceMul, Nat.reduceSub, Nat.reduceLeDiff, ↓reduceIte, reduceCtorEq, ↓String.reduceEq, String.reduceNe, Int.reduceToNat, Int.reduceLT, Int.reduceLE, Int.reduceGT, Int.reduceGE, Int.reduceEq, Int.reduceNe, Int.reduceBEq, Int.reduceBNe, Int.reduceAdd, Int.reduceSub, Int.reduceMul, Int.reduceNeg,  *]))
  refine CallWP.to (HW2.out _ (by (repeat refine Sub.fresh ?_ (by assumption)); exact Sub.refl _)) ?_
  repeat' (first | exact tf0 ‹_› | exact tf1 ‹_› | exact False.elim ‹_› | (with_reducible refine Al.intro ?_; intro pb hpb; (try simp only [hupd_none'] at hpb); (repeat rcases hpb with ⟨⟨hpx, hpy⟩, hpb⟩)) | with_reducible refine need ?_ | ((with_reducible first | apply frk0 | apply frk1 | apply frk2 | apply frk3 | apply frk4 | apply frk5 | apply frk6 | apply frk7 | apply frk8 | apply frk9) <;> intro h <;> try (exfalso; omega)) | with_reducible refine quiet_and ?_ ?_ | with_reducible refine awp_drawnA mixed (by decide +kernel) ?_ | ((fail_if_success with_reducible refine stp ?_); simp -implicitDefEqProofs only [go_sem, Nat.reduceEqDiff, Nat.reduceAdd, Nat.reduceLT, Nat.reduceMul, Nat.reduceSub, Nat.reduceLeDiff, ↓reduceIte, reduceCtorEq, ↓String.reduceEq, String.reduceNe, Int.reduceToNat, Int.reduceLT, Int.reduceLE, Int.reduceGT, Int.reduceGE, Int.reduceEq, Int.reduceNe, Int.reduceBEq, Int.reduceBNe, Int.reduceAdd, Int.reduceSub, Int.reduceMul, Int.reduceNeg,  aeqEs, rcell, *]))
  refine CallWP.to (HT1.out _ (by (repeat refine Sub.fresh ?_ (by assumption)); exact Sub.refl _)) ?_
  refine CallWP.to (HT2.out _ (by (repeat refine Sub.fresh ?_ (by assumption)); exact Sub.refl _)) ?_
  repeat' (first | exact tf0 ‹_› | exact tf1 ‹_› | exact False.elim ‹_› | (with_reducible refine Al.intro ?_; intro pb hpb; (try simp only [hupd_none'] at hpb); (repeat rcases hpb with ⟨⟨hpx, hpy⟩, hpb⟩)) | with_reducible refine need ?_ | ((with_reducible first | apply frk0 | apply frk1 | apply frk2 | apply frk3 | apply frk4 | apply frk5 | apply frk6 | apply frk7 | apply frk8 | apply frk9) <;> intro h <;> try (exfalso; omega)) | with_reducible refine quiet_and ?_ ?_ | with_reducible refine awp_drawnA mixed (by decide +kernel) ?_ | ((fail_if_success with_reducible refine stp ?_); simp -implicitDefEqProofs only [go_sem, Nat.reduceEqDiff, Nat.reduceAdd, Nat.reduceLT, Nat.reduceMul, Nat.reduceSub, Nat.reduceLeDiff, ↓reduceIte, reduceCtorEq, ↓String.reduceEq, String.reduceNe, Int.reduceToNat, Int.reduceLT, Int.reduceLE, Int.reduceGT, Int.reduceGE, Int.reduceEq, Int.reduceNe, Int.reduceBEq, Int.reduceBNe, Int.reduceAdd, Int.reduceSub, Int.reduceMul, Int.reduceNeg,  rowVal, aeqEs, rcell, *]))
  refine HO1.out _ (by (repeat refine Sub.fresh ?_ (by assumption)); exact Sub.refl _) _ (fun v1 m1 a1 a2 a3 => ?_)
  have s1 : Sub m m1 := fun c y hc => a2 _ _ (((by (repeat refine Sub.fresh ?_ (by assumption)); exact Sub.refl _) : Sub m _) _ _ hc)
  have HS1 := Hid.mk s1
  have HA1 := Hid.mk a1
  have hv1 : v1 = .nils ∨ ∃ b o n c, v1 = .slice b o n c := by
    rcases a1.slv with ⟨h, _⟩ | ⟨b, o, c, h⟩
    · exact .inl h
    · exact .inr ⟨_, _, _, _, h⟩
  clear a1 a2 a3 s1
  refine HO2.out _ HS1.out _ (fun v2 m2 a1 a2 a3 => ?_)
  have HS2 := Hid.mk (subTrans HS1.out a2)
  refine sameI_spec G X HOL.out v1 v2 m2 (HA1.out.into a2) a1 _ ?_
  have hv2 : v2 = .nils ∨ ∃ b o n c, v2 = .slice b o n c := by
    rcases a1.slv with ⟨h, _⟩ | ⟨b, o, c, h⟩
    · exact .inl h
    · exact .inr ⟨_, _, _, _, h⟩
  clear a1 a2 a3 HA1
  rcases hv1 with rfl | ⟨b1, o1, n1, c1, rfl⟩ <;> rcases hv2 with rfl | ⟨b2, o2, n2, c2, rfl⟩
  all_goals (
    repeat' (first | exact tf0 ‹_› | exact tf1 ‹_› | exact False.elim ‹_› | (with_reducible refine Al.intro ?_; intro pb hpb; (try simp only [hupd_none'] at hpb); (repeat rcases hpb with ⟨⟨hpx, hpy⟩, hpb⟩)) | with_reducible refine need ?_ | ((with_reducible first | apply frk0 | apply frk1 | apply frk2 | apply frk3 | apply frk4 | apply frk5 | apply frk6 | apply frk7 | apply frk8 | apply frk9) <;> intro h <;> try (exfalso; omega)) | with_reducible refine quiet_and ?_ ?_ | with_reducible refine awp_drawnA mixed (by decide +kernel) ?_ | ((fail_if_success with_reducible refine stp ?_); simp -implicitDefEqProofs only [go_sem, Nat.reduceEqDiff, Nat.reduceAdd, Nat.reduceLT, Nat.reduceMul, Nat.reduceSub, Nat.reduceLeDiff, ↓reduceIte, reduceCtorEq, ↓String.reduceEq, String.reduceNe, Int.reduceToNat, Int.reduceLT, Int.reduceLE, Int.reduceGT, Int.reduceGE, Int.reduceEq, Int.reduceNe, Int.reduceBEq, Int.reduceBNe, Int.reduceAdd, Int.reduceSub, Int.reduceMul, Int.reduceNeg,  *]))
    refine CallWP.to (HQ1.out 1 m2 HS2.out) ?_
    repeat' (first | exact tf0 ‹_› | exact tf1 ‹_› | exact False.elim ‹_› | (with_reducible refine Al.intro ?_; intro pb hpb; (try simp only [hupd_none'] at hpb); (repeat rcases hpb with ⟨⟨hpx, hpy⟩, hpb⟩)) | with_reducible refine need ?_ | ((with_reducible first | apply frk0 | apply frk1 | apply frk2 | apply frk3 | apply frk4 | apply frk5 | apply frk6 | apply frk7 | apply frk8 | apply frk9) <;> intro h <;> try (exfalso; omega)) | with_reducible refine quiet_and ?_ ?_ | with_reducible refine awp_drawnA mixed (by decide +kernel) ?_ | ((fail_if_success with_reducible refine stp ?_); simp -implicitDefEqProofs only [go_sem, Nat.reduceEqDiff, Nat.reduceAdd, Nat.reduceLT, Nat.reduceMul, Nat.reduceSub, Nat.reduceLeDiff, ↓reduceIte, reduceCtorEq, ↓String.reduceEq, String.reduceNe, Int.reduceToNat, Int.reduceLT, Int.reduceLE, Int.reduceGT, Int.reduceGE, Int.reduceEq, Int.reduceNe, Int.reduceBEq, Int.reduceBNe, Int.reduceAdd, Int.reduceSub, Int.reduceMul, Int.reduceNeg,  *]))
    refine CallWP.to (HQ2.out 1 m2 HS2.out) ?_
    repeat' (first | exact tf0 ‹_› | exact tf1 ‹_› | exact False.elim ‹_› | (with_reducible refine Al.intro ?_; intro pb hpb; (try simp only [hupd_none'] at hpb); (repeat rcases hpb with ⟨⟨hpx, hpy⟩, hpb⟩)) | with_reducible refine need ?_ | ((with_reducible first | apply frk0 | apply frk1 | apply frk2 | apply frk3 | apply frk4 | apply frk5 | apply frk6 | apply frk7 | apply frk8 | apply frk9) <;> intro h <;> try (exfalso; omega)) | with_reducible refine quiet_and ?_ ?_ | with_reducible refine awp_drawnA mixed (by decide +kernel) ?_ | ((fail_if_success with_reducible refine stp ?_); simp -implicitDefEqProofs only [go_sem, Nat.reduceEqDiff, Nat.reduceAdd, Nat.reduceLT, Nat.reduceMul, Nat.reduceSub, Nat.reduceLeDiff, ↓reduceIte, reduceCtorEq, ↓String.reduceEq, String.reduceNe, Int.reduceToNat, Int.reduceLT, Int.reduceLE, Int.reduceGT, Int.reduceGE, Int.reduceEq, Int.reduceNe, Int.reduceBEq, Int.reduceBNe, Int.reduceAdd, Int.reduceSub, Int.reduceMul, Int.reduceNeg,  *]))
    refine CallWP.to (HQ1.out id m2 HS2.out) ?_
    repeat' (first | exact tf0 ‹_› | exact tf1 ‹_› | exact False.elim ‹_› | (with_reducible refine Al.intro ?_; intro pb hpb; (try simp only [hupd_none'] at hpb); (repeat rcases hpb with ⟨⟨hpx, hpy⟩, hpb⟩)) | with_reducible refine need ?_ | ((with_reducible first | apply frk0 | apply frk1 | apply frk2 | apply frk3 | apply frk4 | apply frk5 | apply frk6 | apply frk7 | apply frk8 | apply frk9) <;> intro h <;> try (exfalso; omega)) | with_reducible refine quiet_and ?_ ?_ | with_reducible refine awp_drawnA mixed (by decide +kernel) ?_ | ((fail_if_success with_reducible refine stp ?_); simp -implicitDefEqProofs only [go_sem, Nat.reduceEqDiff, Nat.reduceAdd, Nat.reduceLT, Nat.reduceMul, Nat.reduceSub, Nat.reduceLeDiff, ↓reduceIte, reduceCtorEq, ↓String.reduceEq, String.reduceNe, Int.reduceToNat, Int.reduceLT, Int.reduceLE, Int.reduceGT, Int.reduceGE, Int.reduceEq, Int.reduceNe, Int.reduceBEq, Int.reduceBNe, Int.reduceAdd, Int.reduceSub, Int.reduceMul, Int.reduceNeg,  *]))
    refine CallWP.to (HQ2.out id m2 HS2.out) ?_
    repeat' (first | exact tf0 ‹_› | exact tf1 ‹_› | exact False.elim ‹_› | (with_reducible refine Al.intro ?_; intro pb hpb; (try simp only [hupd_none'] at hpb); (repeat rcases hpb with ⟨⟨hpx, hpy⟩, hpb⟩)) | with_reducible refine need ?_ | ((with_reducible first | apply frk0 | apply frk1 | apply frk2 | apply frk3 | apply frk4 | apply frk5 | apply frk6 | apply frk7 | apply frk8 | apply frk9) <;> intro h <;> try (exfalso; omega)) | with_reducible refine quiet_and ?_ ?_ | with_reducible refine awp_drawnA mixed (by decide +kernel) ?_ | ((fail_if_success with_reducible refine stp ?_); simp -implicitDefEqProofs only [go_sem, Nat.reduceEqDiff, Nat.reduceAdd, Nat.reduceLT, Nat.reduceMul, Nat.reduceSub, Nat.reduceLeDiff, ↓reduceIte, reduceCtorEq, ↓String.reduceEq, String.reduceNe, Int.reduceToNat, Int.reduceLT, Int.reduceLE, Int.reduceGT, Int.reduceGE, Int.reduceEq, Int.reduceNe, Int.reduceBEq, Int.reduceBNe, Int.reduceAdd, Int.reduceSub, Int.reduceMul, Int.reduceNeg,  *]))
    exact ⟨m, HS2.out, rfl, rfl⟩)
end Go.Proofs.YtdckcophbmnjjaaGreatDoor
