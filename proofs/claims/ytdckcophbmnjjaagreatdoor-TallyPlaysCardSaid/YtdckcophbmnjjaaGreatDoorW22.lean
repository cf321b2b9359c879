/- The document's table of frames: how it lies; where a tag is. The document's table: what comes, and what becomes of it. The document's table: what becomes of a frame. -/
import Derived.Test.YtdckcophbmnjjaaGreatDoorW14
set_option linter.all false
namespace Go.Proofs.YtdckcophbmnjjaaGreatDoor
open Go Go.Proofs.YtdckcophbmnjjaaGreatDoor.Ab
open Go.Proofs (Tryz.prog)
set_option maxRecDepth 100000
abbrev encNt (x : Ntd) : List AVal := [.int .i64 x.1, .int .i64 x.2.1.1, .int .i64 x.2.1.2.1, .int .i64 x.2.1.2.2.1, .int .i64 x.2.1.2.2.2, .int .i64 x.2.2.1, .int .i64 x.2.2.2]
theorem encNt_len (x : Ntd) : (encNt x).length = 7 := rfl
theorem encNt_flat (L : List Ntd) : (L.flatMap encNt).all AVal.flat = true := by
  induction L with
  | nil => rfl
  | cons s t ih => rw [List.flatMap_cons, List.all_append, ih]; rfl
/-- Where the document's table lies: itself, its streams, what came. -/
structure Rtb where
  p : Nat
  vs : AVal
  vl : AVal
structure RRep (R : Rtb) (C : List Stm) (L : List Ntd) (m : Heap) : Prop where
  tab : m R.p = some (.cells [R.vs, R.vl] 2)
  str : SlM encSc 7 C R.vs m
  lst : SlM encNt 7 L R.vl m
  sepS : bOf R.vs ≠ some R.p
  sepL : bOf R.vl ≠ some R.p
  sepX : ∀ b, bOf R.vs = some b → bOf R.vl ≠ some b
/-- What may be turned of it. -/
def Rtb.own (R : Rtb) (c : Nat) : Prop := c = R.p ∨ bOf R.vl = some c
theorem RRep.keep {R : Rtb} {C : List Stm} {L : List Ntd} {m m' : Heap} (h : RRep R C L m) (h1 : ∀ c, R.own c → m' c = m c) (h2 : ∀ c, bOf R.vs = some c → m' c = m c) : RRep R C L m' where
  tab := by rw [h1 _ (.inl rfl)]; exact h.tab
  str := h.str.keep h2
  lst := h.lst.keep (fun c hc => h1 c (.inr hc))
  sepS := h.sepS
  sepL := h.sepL
  sepX := h.sepX
theorem RRep.into {R : Rtb} {C : List Stm} {L : List Ntd} {m m' : Heap} (h : RRep R C L m) (s : Sub m m') : RRep R C L m' := ⟨s _ _ h.tab, h.str.into s, h.lst.into s, h.sepS, h.sepL, h.sepX⟩
theorem RRep.owned {R : Rtb} {C : List Stm} {L : List Ntd} {m : Heap} (h : RRep R C L m) {c : Nat} (hc : R.own c) : m c ≠ none := by
  rcases hc with rfl | hc
  · rw [h.tab]; simp
  · exact slm_some h.lst hc
/-- How what came lies. -/
theorem nt_ways {L : List Ntd} {v : AVal} {m : Heap} (h : SlM encNt 7 L v m) {n : Nat} (hn : n = L.length) : ∃ b pre post N cap, (v = .nils ∧ n = 0) ∨ (v = .slice b (pre : List AVal).length n cap ∧ m b = some (.cells (pre ++ (L.flatMap encNt ++ post)) N)) := by
  rcases h with ⟨h1, h2⟩ | ⟨b, blk, hb, pre, post, N, cap, h1, rfl, -, -⟩
  · exact ⟨0, [], [], 0, 0, .inl ⟨h1, by rw [hn, h2]; rfl⟩⟩
  · exact ⟨b, pre, post, N, cap, .inr ⟨by rw [hn]; exact h1, hb⟩⟩
theorem nt_cell (C : List Ntd) (pre post : List AVal) (i : Nat) (hi : i < C.length) (x : Ntd) (hx : C.getD i default = x) (k : Nat) (hk : k < 7) :
    (pre ++ (C.flatMap encNt ++ post)).getD (pre.length + i * 7 + k) .undef = (encNt x).getD k .undef := by
  have h := row_at encNt_len C pre post i hi
  rw [hx] at h
  generalize pre ++ (C.flatMap encNt ++ post) = L at h
  generalize pre.length + i * 7 = a at h
  rw [← h]
  simp [List.getD_eq_getElem?_getD, List.getElem?_take, hk]
theorem nt_at (C : List Ntd) (pre post : List AVal) (i : Nat) (hi : i < C.length) (x : Ntd) (hx : C.getD i default = x) : ((pre ++ (C.flatMap encNt ++ post)).drop (pre.length + i * 7)).take 7 = encNt x := by
  rw [row_at encNt_len C pre post i hi, hx]
theorem nt_len (C : List Ntd) (pre post : List AVal) (i : Nat) (hi : i < C.length) : pre.length + i * 7 + 7 ≤ (pre ++ (C.flatMap encNt ++ post)).length := row_len encNt_len C pre post i hi
/-- The place of a tag; -1: none. -/
def tagF (L : List Ntd) (tag : Int) : Int := match tagIdx L tag with | some i => (i : Int) | none => -1
theorem tagF_at {L : List Ntd} {tag : Int} {i : Nat} (hi : i < L.length) (h : (L.getD i default).1 = tag) (hb : ∀ x ∈ L.take i, x.1 ≠ tag) : tagF L tag = i := by
  unfold tagF tagIdx
  have e : (L.findIdx? fun x => x.1 == tag) = some i := by
    rw [List.findIdx?_eq_some_iff_getElem]
    refine ⟨hi, ?_, ?_⟩
    · rw [← getD_getN hi, h]; simp
    · intro j hj
      have hm : L[j] ∈ L.take i := by
        rw [List.mem_take_iff_getElem]
        exact ⟨j, by omega, rfl⟩
      simpa using hb _ hm
  rw [e]
theorem tagF_none {L : List Ntd} {tag : Int} (hb : ∀ x ∈ L, x.1 ≠ tag) : tagF L tag = -1 := by
  unfold tagF tagIdx
  have e : (L.findIdx? fun x => x.1 == tag) = none := by
    rw [List.findIdx?_eq_none_iff]
    intro x hx; simpa using hb x hx
  rw [e]
set_option maxHeartbeats 4000000 in
theorem rtfind_spec (G : Nat → AVal) (R : Rtb) (C : List Stm) (L : List Ntd) (hL : L.length ≤ 100000) (tag : Int) (m : Heap) (hr : RRep R C L m) :
    CallWP Tryz.prog G 29 [.ptr R.p 0, .int .i64 tag] m fun w m' => w = .int .i64 (tagF L tag) ∧ m' = m := by
  obtain ⟨p, vs, vl⟩ := R
  obtain ⟨n, hn⟩ : ∃ n, n = L.length := ⟨_, rfl⟩
  have H0 := Hid.mk hn
  have ktb := hr.tab
  simp only at ktb
  have frt : ∀ c, m c = none → (p = c) = False := fun c h => by rw [eq_iff_iff, iff_false]; exact seenB ktb h
  obtain ⟨b, pre, post, N, cap, hw⟩ := nt_ways hr.lst hn
  simp only at hw
  have lL : n ≤ 100000 := by omega
  clear hr hn hL
  rcases hw with ⟨hv, hz⟩ | ⟨hv, hb⟩
  all_goals (
    subst hv
    refine callWP_body Tryz.func29 rfl (N := 26) rfl (rs := [.tmp 4]) rfl en_29 (of_decide_eq_true rfl) ?_
    repeat' (first | exact tf0 ‹_› | exact tf1 ‹_› | exact False.elim ‹_› | (with_reducible refine Al.intro ?_; intro pb hpb; (try simp only [hupd_none'] at hpb); (repeat rcases hpb with ⟨⟨hpx, hpy⟩, hpb⟩)) | with_reducible refine need ?_ | ((with_reducible first | apply frk0 | apply frk1 | apply frk2 | apply frk3 | apply frk4 | apply frk5 | apply frk6 | apply frk7 | apply frk8 | apply frk9) <;> intro h <;> try (exfalso; omega)) | with_reducible refine quiet_and ?_ ?_ | with_reducible refine awp_drawnA mixed (by decide +kernel) ?_ | ((fail_if_success with_reducible refine stp ?_); simp -implicitDefEqProofs only [go_sem, Nat.reduceEqDiff, Nat.reduceAdd, Nat.reduceLT, Nat.reduceMul, Nat.reduceSub, Nat.reduceLeDiff, ↓reduceIte, reduceCtorEq, ↓String.reduceEq, String.reduceNe, Int.reduceToNat, Int.reduceLT, Int.reduceLE, Int.reduceGT, Int.reduceGE, Int.reduceEq, Int.reduceNe, Int.reduceBEq, Int.reduceBNe, Int.reduceAdd, Int.reduceSub, Int.reduceMul, Int.reduceNeg,  *]))
    refine awp_loopP 0 (fun ts m' => Hid (∀ x ∈ L, x.1 ≠ tag) ∧ m' = m) (fun k ts m' => ∃ i : Nat, Hid (k = n - i ∧ i ≤ n ∧ ∀ x ∈ L.take i, x.1 ≠ tag) ∧ ts 0 = .ptr p 0 ∧ ts 1 = .int .i64 tag ∧ ts 5 = .int .i64 (i : Nat) ∧ m' = m) n ⟨0, .mk ⟨rfl, Nat.zero_le _, by simp⟩, ttt, ttt, ttt, rfl⟩ ?_ ?_
    · rintro k ts m2 ⟨i, H, t0, t1, t5, hm2⟩
      subst m2
      by_cases hi : i < n
      · have lt : (i : Int) < (n : Int) := by omega
        have hiC : i < L.length := by have := H0.out; omega
        obtain ⟨x, hx⟩ : ∃ x, L.getD i default = x := ⟨_, rfl⟩
        have g1 := nt_cell L pre post i hiC x hx 0 (by decide)
        rw [Nat.add_zero, show (encNt x).getD 0 .undef = .int .i64 x.1 from rfl] at g1
        have l1 := nt_len L pre post i hiC
        have w1 : IntKind.i64.wrap ((i : Int) + 1) = ((i + 1 : Nat) : Int) := by rw [wrap_i64 (by omega) (by omega)]; omega
        have hCt : L.take (i + 1) = L.take i ++ [x] := by rw [← hx, List.take_add_one]; simp [List.getD_eq_getElem?_getD, hiC]
        have HX := Hid.mk (And.intro hx hCt)
        clear hx hCt hiC
        by_cases hq : x.1 = tag
        · have HF : Hid (tagF L tag = (i : Int)) := .mk (tagF_at (by have := H0.out; omega) (by rw [HX.out.1]; exact hq) H.out.2.2)
          repeat' (first | exact tf0 ‹_› | exact tf1 ‹_› | exact False.elim ‹_› | (with_reducible refine Al.intro ?_; intro pb hpb; (try simp only [hupd_none'] at hpb); (repeat rcases hpb with ⟨⟨hpx, hpy⟩, hpb⟩)) | with_reducible refine need ?_ | ((with_reducible first | apply frk0 | apply frk1 | apply frk2 | apply frk3 | apply frk4 | apply frk5 | apply frk6 | apply frk7 | apply frk8 | apply frk9) <;> intro h <;> try (exfalso; omega)) | with_reducible refine quiet_and ?_ ?_ | with_reducible refine awp_drawnA mixed (by decide +kernel) ?_ | ((fail_if_success with_reducible refine stp ?_); simp -implicitDefEqProofs only [go_sem, Nat.reduceEqDiff, Nat.reduceAdd, Nat.reduceLT, Nat.reduceMul, Nat.reduceSub, Nat.reduceLeDiff, ↓reduceIte, reduceCtorEq, ↓String.reduceEq, String.reduceNe, Int.reduceToNat, Int.reduceLT, Int.reduceLE, Int.reduceGT, Int.reduceGE, Int.reduceEq, Int.reduceNe, Int.reduceBEq, Int.reduceBNe, Int.reduceAdd, Int.reduceSub, Int.reduceMul, Int.reduceNeg,  *]))
          all_goals exact ⟨_, Sub.refl _, by rw [HF.out], rfl⟩
        · repeat' (first | exact tf0 ‹_› | exact tf1 ‹_› | exact False.elim ‹_› | (with_reducible refine Al.intro ?_; intro pb hpb; (try simp only [hupd_none'] at hpb); (repeat rcases hpb with ⟨⟨hpx, hpy⟩, hpb⟩)) | with_reducible refine need ?_ | ((with_reducible first | apply frk0 | apply frk1 | apply frk2 | apply frk3 | apply frk4 | apply frk5 | apply frk6 | apply frk7 | apply frk8 | apply frk9) <;> intro h <;> try (exfalso; omega)) | with_reducible refine quiet_and ?_ ?_ | with_reducible refine awp_drawnA mixed (by decide +kernel) ?_ | ((fail_if_success with_reducible refine stp ?_); simp -implicitDefEqProofs only [go_sem, Nat.reduceEqDiff, Nat.reduceAdd, Nat.reduceLT, Nat.reduceMul, Nat.reduceSub, Nat.reduceLeDiff, ↓reduceIte, reduceCtorEq, ↓String.reduceEq, String.reduceNe, Int.reduceToNat, Int.reduceLT, Int.reduceLE, Int.reduceGT, Int.reduceGE, Int.reduceEq, Int.reduceNe, Int.reduceBEq, Int.reduceBNe, Int.reduceAdd, Int.reduceSub, Int.reduceMul, Int.reduceNeg,  *]))
          all_goals exact Again.intro ⟨n - (i + 1), by have := H.out; omega, _, Sub.refl _, i + 1, .mk ⟨rfl, by omega, fun s hs => by
            rw [HX.out.2] at hs
            rcases List.mem_append.1 hs with hs | hs
            · exact H.out.2.2 s hs
            · rw [List.mem_singleton.1 hs]; exact hq⟩, (by first | (simp only [upd, put, Nat.reduceEqDiff, ↓reduceIte, t0]; done) | (simp [upd, put, t0]; done) | rfl | (simp [upd, put, t0]; rfl)), (by first | (simp only [upd, put, Nat.reduceEqDiff, ↓reduceIte, t1]; done) | (simp [upd, put, t1]; done) | rfl | (simp [upd, put, t1]; rfl)), ttt, rfl⟩
      · have lt : ¬ (i : Int) < (n : Int) := by omega
        repeat' (first | exact tf0 ‹_› | exact tf1 ‹_› | exact False.elim ‹_› | (with_reducible refine Al.intro ?_; intro pb hpb; (try simp only [hupd_none'] at hpb); (repeat rcases hpb with ⟨⟨hpx, hpy⟩, hpb⟩)) | with_reducible refine need ?_ | ((with_reducible first | apply frk0 | apply frk1 | apply frk2 | apply frk3 | apply frk4 | apply frk5 | apply frk6 | apply frk7 | apply frk8 | apply frk9) <;> intro h <;> try (exfalso; omega)) | with_reducible refine quiet_and ?_ ?_ | with_reducible refine awp_drawnA mixed (by decide +kernel) ?_ | ((fail_if_success with_reducible refine stp ?_); simp -implicitDefEqProofs only [go_sem, Nat.reduceEqDiff, Nat.reduceAdd, Nat.reduceLT, Nat.reduceMul, Nat.reduceSub, Nat.reduceLeDiff, ↓reduceIte, reduceCtorEq, ↓String.reduceEq, String.reduceNe, Int.reduceToNat, Int.reduceLT, Int.reduceLE, Int.reduceGT, Int.reduceGE, Int.reduceEq, Int.reduceNe, Int.reduceBEq, Int.reduceBNe, Int.reduceAdd, Int.reduceSub, Int.reduceMul, Int.reduceNeg,  *]))
        exact Again.intro ⟨.mk (by have h := H.out.2.2; rwa [List.take_of_length_le (by have := H0.out; omega)] at h), rfl⟩
    · rintro ts m2 ⟨H, hm2⟩
      subst m2
      have HF : Hid (tagF L tag = -1) := .mk (tagF_none H.out)
      repeat' (first | exact tf0 ‹_› | exact tf1 ‹_› | exact False.elim ‹_› | (with_reducible refine Al.intro ?_; intro pb hpb; (try simp only [hupd_none'] at hpb); (repeat rcases hpb with ⟨⟨hpx, hpy⟩, hpb⟩)) | with_reducible refine need ?_ | ((with_reducible first | apply frk0 | apply frk1 | apply frk2 | apply frk3 | apply frk4 | apply frk5 | apply frk6 | apply frk7 | apply frk8 | apply frk9) <;> intro h <;> try (exfalso; omega)) | with_reducible refine quiet_and ?_ ?_ | with_reducible refine awp_drawnA mixed (by decide +kernel) ?_ | ((fail_if_success with_reducible refine stp ?_); simp -implicitDefEqProofs only [go_sem, Nat.reduceEqDiff, Nat.reduceAdd, Nat.reduceLT, Nat.reduceMul, Nat.reduceSub, Nat.reduceLeDiff, ↓reduceIte, reduceCtorEq, ↓String.reduceEq, String.reduceNe, Int.reduceToNat, Int.reduceLT, Int.reduceLE, Int.reduceGT, Int.reduceGE, Int.reduceEq, Int.reduceNe, Int.reduceBEq, Int.reduceBNe, Int.reduceAdd, Int.reduceSub, Int.reduceMul, Int.reduceNeg,  *]))
      exact ⟨_, Sub.refl _, by rw [HF.out], rfl⟩)
end Go.Proofs.YtdckcophbmnjjaaGreatDoor
namespace Go.Proofs.YtdckcophbmnjjaaGreatDoor
open Go Go.Proofs.YtdckcophbmnjjaaGreatDoor.Ab
open Go.Proofs (Tryz.prog)
set_option maxRecDepth 100000
/-- One cell of a row is written. -/
theorem ncell_set {α : Type} [Inhabited α] {enc : α → List AVal} {sz : Nat} (henc : ∀ a, (enc a).length = sz) (A B : List α) (x y : α) (pre post : List AVal) (k : Nat) (hk : k < sz) (w : AVal) (hy : enc y = (enc x).set k w) :
    splice (pre ++ ((A ++ x :: B).flatMap enc ++ post)) (pre.length + A.length * sz + k) [w] = pre ++ ((A ++ y :: B).flatMap enc ++ post) := by
  have hA : (A.flatMap enc).length = A.length * sz := flat_len henc A
  have gen : ∀ (P X Q : List AVal) (k : Nat), k < X.length → splice (P ++ (X ++ Q)) (P.length + k) [w] = P ++ (X.set k w ++ Q) := by
    intro P X Q k hk
    have h1 : splice (P ++ (X ++ Q)) (P.length + k) [w] = (P ++ (X ++ Q)).set (P.length + k) w := by
      rw [List.set_eq_take_append_cons_drop, if_pos (by simp only [List.length_append]; omega)]
      unfold splice
      simp
    rw [h1, List.set_append_right _ _ (by omega), Nat.add_sub_cancel_left, List.set_append_left _ _ hk]
  have e1 : pre ++ ((A ++ x :: B).flatMap enc ++ post) = (pre ++ A.flatMap enc) ++ (enc x ++ (B.flatMap enc ++ post)) := by simp [List.flatMap_append]
  have e2 : pre ++ ((A ++ y :: B).flatMap enc ++ post) = (pre ++ A.flatMap enc) ++ (enc y ++ (B.flatMap enc ++ post)) := by simp [List.flatMap_append]
  rw [e1, e2, hy, ← gen _ _ _ _ (by rw [henc]; exact hk), List.length_append, hA]
theorem nt_put (L : List Ntd) (pre post : List AVal) (i : Nat) (hi : i < L.length) (y : Ntd) (k : Nat) (hk : k < 7) (w : AVal) (hy : encNt y = (encNt (L.getD i default)).set k w) :
    splice (pre ++ (L.flatMap encNt ++ post)) (pre.length + i * 7 + k) [w] = pre ++ ((L.set i y).flatMap encNt ++ post) := by
  have h := ncell_set encNt_len (L.take i) (L.drop (i + 1)) (L.getD i default) y pre post k hk w hy
  have e1 : L.take i ++ L.getD i default :: L.drop (i + 1) = L := by rw [getD_getN hi, ← List.drop_eq_getElem_cons hi, List.take_append_drop]
  have e2 : L.take i ++ y :: L.drop (i + 1) = L.set i y := by rw [List.set_eq_take_append_cons_drop, if_pos hi]
  rw [e1, e2, List.length_take_of_le (by omega)] at h
  exact h
theorem tagF_some {L : List Ntd} {tag : Int} {i : Nat} (h : tagIdx L tag = some i) : tagF L tag = i := by unfold tagF; rw [h]
theorem tagF_no {L : List Ntd} {tag : Int} (h : tagIdx L tag = none) : tagF L tag = -1 := by unfold tagF; rw [h]
/-- What else there is stays; what it has now is its own, or new. -/
def RElse (R : Rtb) (vl : AVal) (m m' : Heap) : Prop := (∀ c, m c ≠ none → ¬ R.own c → m' c = m c) ∧ ∀ c, bOf vl = some c → bOf R.vl = some c ∨ m c = none
set_option maxHeartbeats 4000000 in
theorem rttake_spec (G : Nat → AVal) (R : Rtb) (C : List Stm) (L : List Ntd) (hC : C.length ≤ 1000) (hL : L.length ≤ 100000) (tag : Int) (j : Jb) (m : Heap) (hr : RRep R C L m) (K : AVal → Heap → Prop)
    (hK : ∀ vl m', RRep ⟨R.p, R.vs, vl⟩ C (takeF C L tag j).2 m' → RElse R vl m m' → K (.int .i64 (takeF C L tag j).1) m') : CallWP Tryz.prog G 10 [.ptr R.p 0, .int .i64 tag, .agg (encJc j)] m K := by
  obtain ⟨p, vs, vl⟩ := R
  obtain ⟨j0, j1, j2, j3⟩ := j
  have HK := Hid.mk (And.intro hK (And.intro hr (And.intro hC hL)))
  have ktb := hr.tab
  simp only at ktb
  have frt : ∀ c, m c = none → (p = c) = False := fun c h => by rw [eq_iff_iff, iff_false]; exact seenB ktb h
  have fin : Hid (∀ c, takeF C L tag (j0, j1, j2, j3) = (c, L) → K (.int .i64 c) m) := .mk (fun c h => by
    have := HK.out.1 vl m (by rw [h]; exact HK.out.2.1) ⟨fun c _ _ => rfl, fun c h => .inl h⟩
    rw [h] at this
    exact this)
  clear hK hr hC hL
  cases ht : tagIdx L tag with
  | some i =>
    have HF := Hid.mk (tagF_some ht)
    have HT := Hid.mk (show takeF C L tag (j0, j1, j2, j3) = (13, L) by unfold takeF; rw [ht]; rfl)
    clear ht
    refine callWP_body Tryz.func10 rfl (N := 57) rfl (rs := [.tmp 6]) rfl en_10 (of_decide_eq_true rfl) ?_
    repeat' (first | exact tf0 ‹_› | exact tf1 ‹_› | exact False.elim ‹_› | (with_reducible refine Al.intro ?_; intro pb hpb; (try simp only [hupd_none'] at hpb); (repeat rcases hpb with ⟨⟨hpx, hpy⟩, hpb⟩)) | with_reducible refine need ?_ | ((with_reducible first | apply frk0 | apply frk1 | apply frk2 | apply frk3 | apply frk4 | apply frk5 | apply frk6 | apply frk7 | apply frk8 | apply frk9) <;> intro h <;> try (exfalso; omega)) | with_reducible refine quiet_and ?_ ?_ | with_reducible refine awp_drawnA mixed (by decide +kernel) ?_ | ((fail_if_success with_reducible refine stp ?_); simp -implicitDefEqProofs only [go_sem, Nat.reduceEqDiff, Nat.reduceAdd, Nat.reduceLT, Nat.reduceMul, Nat.reduceSub, Nat.reduceLeDiff, ↓reduceIte, reduceCtorEq, ↓String.reduceEq, String.reduceNe, Int.reduceToNat, Int.reduceLT, Int.reduceLE, Int.reduceGT, Int.reduceGE, Int.reduceEq, Int.reduceNe, Int.reduceBEq, Int.reduceBNe, Int.reduceAdd, Int.reduceSub, Int.reduceMul, Int.reduceNeg,  encJc, *]))
    refine CallWP.to (rtfind_spec G ⟨p, vs, vl⟩ C L HK.out.2.2.2 tag _ (HK.out.2.1.into (by (repeat refine Sub.fresh ?_ (by assumption)); exact Sub.refl _))) ?_
    rw [HF.out]
    repeat' (first | exact tf0 ‹_› | exact tf1 ‹_› | exact False.elim ‹_› | (with_reducible refine Al.intro ?_; intro pb hpb; (try simp only [hupd_none'] at hpb); (repeat rcases hpb with ⟨⟨hpx, hpy⟩, hpb⟩)) | with_reducible refine need ?_ | ((with_reducible first | apply frk0 | apply frk1 | apply frk2 | apply frk3 | apply frk4 | apply frk5 | apply frk6 | apply frk7 | apply frk8 | apply frk9) <;> intro h <;> try (exfalso; omega)) | with_reducible refine quiet_and ?_ ?_ | with_reducible refine awp_drawnA mixed (by decide +kernel) ?_ | ((fail_if_success with_reducible refine stp ?_); simp -implicitDefEqProofs only [go_sem, Nat.reduceEqDiff, Nat.reduceAdd, Nat.reduceLT, Nat.reduceMul, Nat.reduceSub, Nat.reduceLeDiff, ↓reduceIte, reduceCtorEq, ↓String.reduceEq, String.reduceNe, Int.reduceToNat, Int.reduceLT, Int.reduceLE, Int.reduceGT, Int.reduceGE, Int.reduceEq, Int.reduceNe, Int.reduceBEq, Int.reduceBNe, Int.reduceAdd, Int.reduceSub, Int.reduceMul, Int.reduceNeg,  encJc, *]))
    exact ⟨m, (by (repeat refine Sub.fresh ?_ (by assumption)); exact Sub.refl _), fin.out _ HT.out⟩
  | none =>
    have HF := Hid.mk (tagF_no ht)
    have HTG := Hid.mk ht
    clear ht
    rcases findF_cases C j0 with ⟨hf, hno⟩ | ⟨i, hf, hi, hid⟩
    · have HT := Hid.mk (show takeF C L tag (j0, j1, j2, j3) = (7, L) by unfold takeF; rw [HTG.out, if_neg (by simp), if_pos (by show findF C j0 < 0; rw [hf]; decide)])
      have HF2 := Hid.mk hf
      clear hf hno
      refine callWP_body Tryz.func10 rfl (N := 57) rfl (rs := [.tmp 6]) rfl en_10 (of_decide_eq_true rfl) ?_
      repeat' (first | exact tf0 ‹_› | exact tf1 ‹_› | exact False.elim ‹_› | (with_reducible refine Al.intro ?_; intro pb hpb; (try simp only [hupd_none'] at hpb); (repeat rcases hpb with ⟨⟨hpx, hpy⟩, hpb⟩)) | with_reducible refine need ?_ | ((with_reducible first | apply frk0 | apply frk1 | apply frk2 | apply frk3 | apply frk4 | apply frk5 | apply frk6 | apply frk7 | apply frk8 | apply frk9) <;> intro h <;> try (exfalso; omega)) | with_reducible refine quiet_and ?_ ?_ | with_reducible refine awp_drawnA mixed (by decide +kernel) ?_ | ((fail_if_success with_reducible refine stp ?_); simp -implicitDefEqProofs only [go_sem, Nat.reduceEqDiff, Nat.reduceAdd, Nat.reduceLT, Nat.reduceMul, Nat.reduceSub, Nat.reduceLeDiff, ↓reduceIte, reduceCtorEq, ↓String.reduceEq, String.reduceNe, Int.reduceToNat, Int.reduceLT, Int.reduceLE, Int.reduceGT, Int.reduceGE, Int.reduceEq, Int.reduceNe, Int.reduceBEq, Int.reduceBNe, Int.reduceAdd, Int.reduceSub, Int.reduceMul, Int.reduceNeg,  encJc, *]))
      refine CallWP.to (rtfind_spec G ⟨p, vs, vl⟩ C L HK.out.2.2.2 tag _ (HK.out.2.1.into (by (repeat refine Sub.fresh ?_ (by assumption)); exact Sub.refl _))) ?_
      rw [HF.out]
      repeat' (first | exact tf0 ‹_› | exact tf1 ‹_› | exact False.elim ‹_› | (with_reducible refine Al.intro ?_; intro pb hpb; (try simp only [hupd_none'] at hpb); (repeat rcases hpb with ⟨⟨hpx, hpy⟩, hpb⟩)) | with_reducible refine need ?_ | ((with_reducible first | apply frk0 | apply frk1 | apply frk2 | apply frk3 | apply frk4 | apply frk5 | apply frk6 | apply frk7 | apply frk8 | apply frk9) <;> intro h <;> try (exfalso; omega)) | with_reducible refine quiet_and ?_ ?_ | with_reducible refine awp_drawnA mixed (by decide +kernel) ?_ | ((fail_if_success with_reducible refine stp ?_); simp -implicitDefEqProofs only [go_sem, Nat.reduceEqDiff, Nat.reduceAdd, Nat.reduceLT, Nat.reduceMul, Nat.reduceSub, Nat.reduceLeDiff, ↓reduceIte, reduceCtorEq, ↓String.reduceEq, String.reduceNe, Int.reduceToNat, Int.reduceLT, Int.reduceLE, Int.reduceGT, Int.reduceGE, Int.reduceEq, Int.reduceNe, Int.reduceBEq, Int.reduceBNe, Int.reduceAdd, Int.reduceSub, Int.reduceMul, Int.reduceNeg,  encJc, *]))
      refine CallWP.to (find_spec G C HK.out.2.2.1 j0 vs _ (.inl (HK.out.2.1.str.into (by (repeat refine Sub.fresh ?_ (by assumption)); exact Sub.refl _)))) ?_
      rw [HF2.out]
      repeat' (first | exact tf0 ‹_› | exact tf1 ‹_› | exact False.elim ‹_› | (with_reducible refine Al.intro ?_; intro pb hpb; (try simp only [hupd_none'] at hpb); (repeat rcases hpb with ⟨⟨hpx, hpy⟩, hpb⟩)) | with_reducible refine need ?_ | ((with_reducible first | apply frk0 | apply frk1 | apply frk2 | apply frk3 | apply frk4 | apply frk5 | apply frk6 | apply frk7 | apply frk8 | apply frk9) <;> intro h <;> try (exfalso; omega)) | with_reducible refine quiet_and ?_ ?_ | with_reducible refine awp_drawnA mixed (by decide +kernel) ?_ | ((fail_if_success with_reducible refine stp ?_); simp -implicitDefEqProofs only [go_sem, Nat.reduceEqDiff, Nat.reduceAdd, Nat.reduceLT, Nat.reduceMul, Nat.reduceSub, Nat.reduceLeDiff, ↓reduceIte, reduceCtorEq, ↓String.reduceEq, String.reduceNe, Int.reduceToNat, Int.reduceLT, Int.reduceLE, Int.reduceGT, Int.reduceGE, Int.reduceEq, Int.reduceNe, Int.reduceBEq, Int.reduceBNe, Int.reduceAdd, Int.reduceSub, Int.reduceMul, Int.reduceNeg,  encJc, *]))
      exact ⟨m, (by (repeat refine Sub.fresh ?_ (by assumption)); exact Sub.refl _), fin.out _ HT.out⟩
    · have hsm := getD_mem C i hi
      obtain ⟨x, hx⟩ : ∃ x, C.getD i default = x := ⟨_, rfl⟩
      rw [hx] at hid hsm
      have HJ := Hid.mk (rjob_spec G x j1)
      obtain ⟨⟨⟨q0, q1, q2, q3⟩, e⟩, hje⟩ : ∃ y, jobS x j1 = y := ⟨_, rfl⟩
      rw [hje] at HJ
      have HT0 : Hid (takeF C L tag (j0, j1, j2, j3) = if e ≠ 0 ∨ ((q0, q1, q2, q3) : Jb) ≠ (j0, j1, j2, j3) then (10, L) else (0, L ++ [(tag, (j0, j1, j2, j3), 0, 0)])) := .mk (by
        unfold takeF
        rw [HTG.out, if_neg (by simp)]
        simp only
        rw [hf, if_neg (by omega), Int.toNat_natCast, hx, hje])
      have hpl : ¬ (i : Int) < 0 := by omega
      have HF2 := Hid.mk (And.intro hf (And.intro hsm hid))
      have hstr := HK.out.2.1.str
      have hcm : ∃ b pre post N cap, vs = .slice b (pre : List AVal).length C.length cap ∧ m b = some (.cells (pre ++ (C.flatMap encSc ++ post)) N) := by
        rcases hstr with ⟨_, h2⟩ | ⟨b, blk, hb, pre, post, N, cap, h1, h2, _⟩
        · rw [h2] at hi; simp at hi
        · exact ⟨b, pre, post, N, cap, h1, by rw [hb, h2]⟩
      obtain ⟨b, pre, post, N, cap, hv, hb⟩ := hcm
      subst hv
      have g0 := sm_at C pre post i hi x hx
      have l1 := sm_len C pre post i hi
      have lt1 : (i : Int) < (C.length : Int) := by omega
      have frb : ∀ c, m c = none → (b = c) = False := fun c h => by rw [eq_iff_iff, iff_false]; exact seenB hb h
      clear hf hsm hid hje hx hstr hi
      by_cases he : e = 0
      · have he0 : (e != 0) = false := by simpa using he
        by_cases hq : ((q0, q1, q2, q3) : Jb) = (j0, j1, j2, j3)
        · have HT := Hid.mk (HT0.out.trans (if_neg (fun h => h.elim (fun g => g he) (fun g => g hq))))
          simp only [Prod.mk.injEq] at hq
          obtain ⟨rfl, rfl, rfl, rfl⟩ := hq
          subst he
          clear HT0
          refine callWP_body Tryz.func10 rfl (N := 57) rfl (rs := [.tmp 6]) rfl en_10 (of_decide_eq_true rfl) ?_
          repeat' (first | exact tf0 ‹_› | exact tf1 ‹_› | exact False.elim ‹_› | (with_reducible refine Al.intro ?_; intro pb hpb; (try simp only [hupd_none'] at hpb); (repeat rcases hpb with ⟨⟨hpx, hpy⟩, hpb⟩)) | with_reducible refine need ?_ | ((with_reducible first | apply frk0 | apply frk1 | apply frk2 | apply frk3 | apply frk4 | apply frk5 | apply frk6 | apply frk7 | apply frk8 | apply frk9) <;> intro h <;> try (exfalso; omega)) | with_reducible refine quiet_and ?_ ?_ | with_reducible refine awp_drawnA mixed (by decide +kernel) ?_ | ((fail_if_success with_reducible refine stp ?_); simp -implicitDefEqProofs only [go_sem, Nat.reduceEqDiff, Nat.reduceAdd, Nat.reduceLT, Nat.reduceMul, Nat.reduceSub, Nat.reduceLeDiff, ↓reduceIte, reduceCtorEq, ↓String.reduceEq, String.reduceNe, Int.reduceToNat, Int.reduceLT, Int.reduceLE, Int.reduceGT, Int.reduceGE, Int.reduceEq, Int.reduceNe, Int.reduceBEq, Int.reduceBNe, Int.reduceAdd, Int.reduceSub, Int.reduceMul, Int.reduceNeg,  encJc, *]))
          refine CallWP.to (rtfind_spec G ⟨p, _, vl⟩ C L HK.out.2.2.2 tag _ (HK.out.2.1.into (by (repeat refine Sub.fresh ?_ (by assumption)); exact Sub.refl _))) ?_
          rw [HF.out]
          repeat' (first | exact tf0 ‹_› | exact tf1 ‹_› | exact False.elim ‹_› | (with_reducible refine Al.intro ?_; intro pb hpb; (try simp only [hupd_none'] at hpb); (repeat rcases hpb with ⟨⟨hpx, hpy⟩, hpb⟩)) | with_reducible refine need ?_ | ((with_reducible first | apply frk0 | apply frk1 | apply frk2 | apply frk3 | apply frk4 | apply frk5 | apply frk6 | apply frk7 | apply frk8 | apply frk9) <;> intro h <;> try (exfalso; omega)) | with_reducible refine quiet_and ?_ ?_ | with_reducible refine awp_drawnA mixed (by decide +kernel) ?_ | ((fail_if_success with_reducible refine stp ?_); simp -implicitDefEqProofs only [go_sem, Nat.reduceEqDiff, Nat.reduceAdd, Nat.reduceLT, Nat.reduceMul, Nat.reduceSub, Nat.reduceLeDiff, ↓reduceIte, reduceCtorEq, ↓String.reduceEq, String.reduceNe, Int.reduceToNat, Int.reduceLT, Int.reduceLE, Int.reduceGT, Int.reduceGE, Int.reduceEq, Int.reduceNe, Int.reduceBEq, Int.reduceBNe, Int.reduceAdd, Int.reduceSub, Int.reduceMul, Int.reduceNeg,  encJc, *]))
          refine CallWP.to (find_spec G C HK.out.2.2.1 _ _ _ (.inl (HK.out.2.1.str.into (by (repeat refine Sub.fresh ?_ (by assumption)); exact Sub.refl _)))) ?_
          rw [HF2.out.1]
          repeat' (first | exact tf0 ‹_› | exact tf1 ‹_› | exact False.elim ‹_› | (with_reducible refine Al.intro ?_; intro pb hpb; (try simp only [hupd_none'] at hpb); (repeat rcases hpb with ⟨⟨hpx, hpy⟩, hpb⟩)) | with_reducible refine need ?_ | ((with_reducible first | apply frk0 | apply frk1 | apply frk2 | apply frk3 | apply frk4 | apply frk5 | apply frk6 | apply frk7 | apply frk8 | apply frk9) <;> intro h <;> try (exfalso; omega)) | with_reducible refine quiet_and ?_ ?_ | with_reducible refine awp_drawnA mixed (by decide +kernel) ?_ | ((fail_if_success with_reducible refine stp ?_); simp -implicitDefEqProofs only [go_sem, Nat.reduceEqDiff, Nat.reduceAdd, Nat.reduceLT, Nat.reduceMul, Nat.reduceSub, Nat.reduceLeDiff, ↓reduceIte, reduceCtorEq, ↓String.reduceEq, String.reduceNe, Int.reduceToNat, Int.reduceLT, Int.reduceLE, Int.reduceGT, Int.reduceGE, Int.reduceEq, Int.reduceNe, Int.reduceBEq, Int.reduceBNe, Int.reduceAdd, Int.reduceSub, Int.reduceMul, Int.reduceNeg,  encJc, *]))
          refine awp_drawnE [(0, .q), (1, .q), (2, .q), (3, .q), (4, .q), (5, .q), (6, .q), (7, .q), (8, .q), (9, .k), (10, .q), (11, .q), (12, .r [14]), (13, .q), (14, .e), (15, .q)] (fun k => match k with | 9 => .tuple [encJ (q0, q1, q2, q3), .int .i64 0] | _ => .undef) (fun _ => False) (fun _ _ => False) mixed (by decide +kernel) ?_
          repeat' (first | exact tf0 ‹_› | exact tf1 ‹_› | exact False.elim ‹_› | (with_reducible refine Al.intro ?_; intro pb hpb; (try simp only [hupd_none'] at hpb); (repeat rcases hpb with ⟨⟨hpx, hpy⟩, hpb⟩)) | with_reducible refine need ?_ | ((with_reducible first | apply frk0 | apply frk1 | apply frk2 | apply frk3 | apply frk4 | apply frk5 | apply frk6 | apply frk7 | apply frk8 | apply frk9) <;> intro h <;> try (exfalso; omega)) | with_reducible refine quiet_and ?_ ?_ | with_reducible refine awp_drawnA mixed (by decide +kernel) ?_ | ((fail_if_success with_reducible refine stp ?_); simp -implicitDefEqProofs only [go_sem, Nat.reduceEqDiff, Nat.reduceAdd, Nat.reduceLT, Nat.reduceMul, Nat.reduceSub, Nat.reduceLeDiff, ↓reduceIte, reduceCtorEq, ↓String.reduceEq, String.reduceNe, Int.reduceToNat, Int.reduceLT, Int.reduceLE, Int.reduceGT, Int.reduceGE, Int.reduceEq, Int.reduceNe, Int.reduceBEq, Int.reduceBNe, Int.reduceAdd, Int.reduceSub, Int.reduceMul, Int.reduceNeg,  encJc, encSc, encJ, *]))
          · exact fun m3 _ => HJ.out m3
          rename_i p5 e5 p7 e7 n75 n57 na nb
          obtain ⟨M, hM⟩ : ∃ M, hupd (hupd (hupd m p5 (.cells [.int .i64 q0, .int .i64 q1, .int .i64 q2, .int .i64 q3] 4)) p7 (.cells [.int .i64 q0, .int .i64 q1, .int .i64 q2, .int .i64 q3] 4)) pb (.cells [.int .i64 tag, .int .i64 q0, .int .i64 q1, .int .i64 q2, .int .i64 q3, .int .i64 0, .int .i64 0] 7) = M := ⟨_, rfl⟩
          have sM : Sub m M := by rw [← hM]; exact ((((Sub.refl _).fresh e5).fresh e7).fresh hpb)
          have kpb : M pb = some (.cells [.int .i64 tag, .int .i64 q0, .int .i64 q1, .int .i64 q2, .int .i64 q3, .int .i64 0, .int .i64 0] 7) := by rw [← hM, hupd_at, if_pos rfl]
          have gM : ∀ c, M c = none → m c = none := fun c hc => by
            cases h : m c with
            | none => rfl
            | some y => rw [sM _ _ h] at hc; cases hc
          rw [hM]
          clear hM
          have HR := HK.out.2.1
          refine app1 (enc := encNt) (sz := 7) (C := L) (x := (tag, (q0, q1, q2, q3), 0, 0)) Tryz.underlying62 tk_83 eb_83 zl_83 (by decide) (by rw [Tryz.underlying62]; rfl) (by unfold isInt; rw [Tryz.underlying62]) encNt_len rfl ⟨_, kpb⟩ (HR.lst.into sM) (by have := HK.out.2.2.2; omega) (fun v2 m2 h1 h2 => ?_)
          have k1 : ∀ c, m c ≠ none → bOf vl ≠ some c → m2 c = m c := fun c hc hn => by
            cases h : m c with
            | none => exact absurd h hc
            | some y => have := sM _ _ h; rw [h2.1 c hn (by rw [this]; simp), this]
          have kp2 : m2 p = some (.cells [.slice b pre.length C.length cap, vl] 2) := by rw [k1 p (by rw [ktb]; simp) HR.sepL]; exact ktb
          have k3 : ∀ c, bOf v2 = some c → bOf vl = some c ∨ m c = none := fun c hc => (h2.2 c hc).symm.imp id (gM c)
          have np2 : bOf v2 ≠ some p := fun h => by
            rcases k3 p h with h | h
            · exact HR.sepL h
            · rw [ktb] at h; cases h
          obtain ⟨b2, o2, n2, c2, hv2⟩ : ∃ b o n c, v2 = .slice b o n c := by
            rcases h1.slv with ⟨_, h⟩ | ⟨b, o, c, h⟩
            · simp at h
            · exact ⟨_, _, _, _, h⟩
          subst hv2
          have HZ := Hid.mk (And.intro h1 (And.intro k1 (And.intro k3 np2)))
          clear h1 h2 k1 k3 np2 kpb HR ktb frt hb frb e5 e7 hpb g0 l1
          repeat' (first | exact tf0 ‹_› | exact tf1 ‹_› | exact False.elim ‹_› | (with_reducible refine Al.intro ?_; intro pb hpb; (try simp only [hupd_none'] at hpb); (repeat rcases hpb with ⟨⟨hpx, hpy⟩, hpb⟩)) | with_reducible refine need ?_ | ((with_reducible first | apply frk0 | apply frk1 | apply frk2 | apply frk3 | apply frk4 | apply frk5 | apply frk6 | apply frk7 | apply frk8 | apply frk9) <;> intro h <;> try (exfalso; omega)) | with_reducible refine quiet_and ?_ ?_ | with_reducible refine awp_drawnA mixed (by decide +kernel) ?_ | ((fail_if_success with_reducible refine stp ?_); simp -implicitDefEqProofs only [go_sem, Nat.reduceEqDiff, Nat.reduceAdd, Nat.reduceLT, Nat.reduceMul, Nat.reduceSub, Nat.reduceLeDiff, ↓reduceIte, reduceCtorEq, ↓String.reduceEq, String.reduceNe, Int.reduceToNat, Int.reduceLT, Int.reduceLE, Int.reduceGT, Int.reduceGE, Int.reduceEq, Int.reduceNe, Int.reduceBEq, Int.reduceBNe, Int.reduceAdd, Int.reduceSub, Int.reduceMul, Int.reduceNeg,  *]))
          refine ⟨_, Sub.refl _, ?_⟩
          obtain ⟨h1, k1, k3, np2⟩ := HZ.out
          have HR := HK.out.2.1
          have hfin := HK.out.1 (.slice b2 o2 n2 c2) (hupd m2 p (.cells [.slice b pre.length C.length cap, .slice b2 o2 n2 c2] 2))
          rw [HT.out] at hfin
          refine hfin ⟨by rw [hupd_at, if_pos rfl], ?_, ?_, HR.sepS, np2, fun c hc h => ?_⟩ ⟨fun c hc ho => ?_, k3⟩
          · refine HR.str.keep (fun c hc => ?_)
            rw [hupd_ne (fun e => HR.sepS (by rw [← e]; exact hc)), k1 c (slm_some HR.str hc) (HR.sepX c hc)]
          · exact h1.keep (fun c hc => hupd_ne (fun e => np2 (by rw [← e]; exact hc)))
          · rcases k3 c h with h | h
            · exact HR.sepX c hc h
            · exact slm_some HR.str hc h
          · rw [hupd_ne (fun e => ho (.inl e)), k1 c hc (fun e => ho (.inr e))]
        · have HT := Hid.mk (HT0.out.trans (if_pos (.inr hq)))
          have hb4 : (q0 == j0 && (q1 == j1 && (q2 == j2 && q3 == j3))) = false := by
            cases hc : (q0 == j0 && (q1 == j1 && (q2 == j2 && q3 == j3))) with
            | false => rfl
            | true => simp only [Bool.and_eq_true, beq_iff_eq] at hc; exact absurd (by rw [hc.1, hc.2.1, hc.2.2.1, hc.2.2.2]) hq
          clear he hq
          refine callWP_body Tryz.func10 rfl (N := 57) rfl (rs := [.tmp 6]) rfl en_10 (of_decide_eq_true rfl) ?_
          repeat' (first | exact tf0 ‹_› | exact tf1 ‹_› | exact False.elim ‹_› | (with_reducible refine Al.intro ?_; intro pb hpb; (try simp only [hupd_none'] at hpb); (repeat rcases hpb with ⟨⟨hpx, hpy⟩, hpb⟩)) | with_reducible refine need ?_ | ((with_reducible first | apply frk0 | apply frk1 | apply frk2 | apply frk3 | apply frk4 | apply frk5 | apply frk6 | apply frk7 | apply frk8 | apply frk9) <;> intro h <;> try (exfalso; omega)) | with_reducible refine quiet_and ?_ ?_ | with_reducible refine awp_drawnA mixed (by decide +kernel) ?_ | ((fail_if_success with_reducible refine stp ?_); simp -implicitDefEqProofs only [go_sem, Nat.reduceEqDiff, Nat.reduceAdd, Nat.reduceLT, Nat.reduceMul, Nat.reduceSub, Nat.reduceLeDiff, ↓reduceIte, reduceCtorEq, ↓String.reduceEq, String.reduceNe, Int.reduceToNat, Int.reduceLT, Int.reduceLE, Int.reduceGT, Int.reduceGE, Int.reduceEq, Int.reduceNe, Int.reduceBEq, Int.reduceBNe, Int.reduceAdd, Int.reduceSub, Int.reduceMul, Int.reduceNeg,  encJc, *]))
          refine CallWP.to (rtfind_spec G ⟨p, _, vl⟩ C L HK.out.2.2.2 tag _ (HK.out.2.1.into (by (repeat refine Sub.fresh ?_ (by assumption)); exact Sub.refl _))) ?_
          rw [HF.out]
          repeat' (first | exact tf0 ‹_› | exact tf1 ‹_› | exact False.elim ‹_› | (with_reducible refine Al.intro ?_; intro pb hpb; (try simp only [hupd_none'] at hpb); (repeat rcases hpb with ⟨⟨hpx, hpy⟩, hpb⟩)) | with_reducible refine need ?_ | ((with_reducible first | apply frk0 | apply frk1 | apply frk2 | apply frk3 | apply frk4 | apply frk5 | apply frk6 | apply frk7 | apply frk8 | apply frk9) <;> intro h <;> try (exfalso; omega)) | with_reducible refine quiet_and ?_ ?_ | with_reducible refine awp_drawnA mixed (by decide +kernel) ?_ | ((fail_if_success with_reducible refine stp ?_); simp -implicitDefEqProofs only [go_sem, Nat.reduceEqDiff, Nat.reduceAdd, Nat.reduceLT, Nat.reduceMul, Nat.reduceSub, Nat.reduceLeDiff, ↓reduceIte, reduceCtorEq, ↓String.reduceEq, String.reduceNe, Int.reduceToNat, Int.reduceLT, Int.reduceLE, Int.reduceGT, Int.reduceGE, Int.reduceEq, Int.reduceNe, Int.reduceBEq, Int.reduceBNe, Int.reduceAdd, Int.reduceSub, Int.reduceMul, Int.reduceNeg,  encJc, *]))
          refine CallWP.to (find_spec G C HK.out.2.2.1 _ _ _ (.inl (HK.out.2.1.str.into (by (repeat refine Sub.fresh ?_ (by assumption)); exact Sub.refl _)))) ?_
          rw [HF2.out.1]
          repeat' (first | exact tf0 ‹_› | exact tf1 ‹_› | exact False.elim ‹_› | (with_reducible refine Al.intro ?_; intro pb hpb; (try simp only [hupd_none'] at hpb); (repeat rcases hpb with ⟨⟨hpx, hpy⟩, hpb⟩)) | with_reducible refine need ?_ | ((with_reducible first | apply frk0 | apply frk1 | apply frk2 | apply frk3 | apply frk4 | apply frk5 | apply frk6 | apply frk7 | apply frk8 | apply frk9) <;> intro h <;> try (exfalso; omega)) | with_reducible refine quiet_and ?_ ?_ | with_reducible refine awp_drawnA mixed (by decide +kernel) ?_ | ((fail_if_success with_reducible refine stp ?_); simp -implicitDefEqProofs only [go_sem, Nat.reduceEqDiff, Nat.reduceAdd, Nat.reduceLT, Nat.reduceMul, Nat.reduceSub, Nat.reduceLeDiff, ↓reduceIte, reduceCtorEq, ↓String.reduceEq, String.reduceNe, Int.reduceToNat, Int.reduceLT, Int.reduceLE, Int.reduceGT, Int.reduceGE, Int.reduceEq, Int.reduceNe, Int.reduceBEq, Int.reduceBNe, Int.reduceAdd, Int.reduceSub, Int.reduceMul, Int.reduceNeg,  encJc, *]))
          refine awp_drawnE [(0, .q), (1, .q), (2, .q), (3, .q), (4, .q), (5, .q), (6, .q), (7, .q), (8, .q), (9, .k), (10, .q), (11, .q), (12, .r [14]), (13, .q), (14, .e), (15, .q)] (fun k => match k with | 9 => .tuple [encJ (q0, q1, q2, q3), .int .i64 e] | _ => .undef) (fun _ => False) (fun _ _ => False) mixed (by decide +kernel) ?_
          repeat' (first | exact tf0 ‹_› | exact tf1 ‹_› | exact False.elim ‹_› | (with_reducible refine Al.intro ?_; intro pb hpb; (try simp only [hupd_none'] at hpb); (repeat rcases hpb with ⟨⟨hpx, hpy⟩, hpb⟩)) | with_reducible refine need ?_ | ((with_reducible first | apply frk0 | apply frk1 | apply frk2 | apply frk3 | apply frk4 | apply frk5 | apply frk6 | apply frk7 | apply frk8 | apply frk9) <;> intro h <;> try (exfalso; omega)) | with_reducible refine quiet_and ?_ ?_ | with_reducible refine awp_drawnA mixed (by decide +kernel) ?_ | ((fail_if_success with_reducible refine stp ?_); simp -implicitDefEqProofs only [go_sem, Nat.reduceEqDiff, Nat.reduceAdd, Nat.reduceLT, Nat.reduceMul, Nat.reduceSub, Nat.reduceLeDiff, ↓reduceIte, reduceCtorEq, ↓String.reduceEq, String.reduceNe, Int.reduceToNat, Int.reduceLT, Int.reduceLE, Int.reduceGT, Int.reduceGE, Int.reduceEq, Int.reduceNe, Int.reduceBEq, Int.reduceBNe, Int.reduceAdd, Int.reduceSub, Int.reduceMul, Int.reduceNeg,  encJc, encSc, encJ, *]))
          · exact fun m3 _ => HJ.out m3
          exact ⟨m, (by (repeat refine Sub.fresh ?_ (by assumption)); exact Sub.refl _), fin.out _ HT.out⟩
      · have HT := Hid.mk (HT0.out.trans (if_pos (.inl he)))
        have he1 : (e != 0) = true := by simpa using he
        clear he
        refine callWP_body Tryz.func10 rfl (N := 57) rfl (rs := [.tmp 6]) rfl en_10 (of_decide_eq_true rfl) ?_
        repeat' (first | exact tf0 ‹_› | exact tf1 ‹_› | exact False.elim ‹_› | (with_reducible refine Al.intro ?_; intro pb hpb; (try simp only [hupd_none'] at hpb); (repeat rcases hpb with ⟨⟨hpx, hpy⟩, hpb⟩)) | with_reducible refine need ?_ | ((with_reducible first | apply frk0 | apply frk1 | apply frk2 | apply frk3 | apply frk4 | apply frk5 | apply frk6 | apply frk7 | apply frk8 | apply frk9) <;> intro h <;> try (exfalso; omega)) | with_reducible refine quiet_and ?_ ?_ | with_reducible refine awp_drawnA mixed (by decide +kernel) ?_ | ((fail_if_success with_reducible refine stp ?_); simp -implicitDefEqProofs only [go_sem, Nat.reduceEqDiff, Nat.reduceAdd, Nat.reduceLT, Nat.reduceMul, Nat.reduceSub, Nat.reduceLeDiff, ↓reduceIte, reduceCtorEq, ↓String.reduceEq, String.reduceNe, Int.reduceToNat, Int.reduceLT, Int.reduceLE, Int.reduceGT, Int.reduceGE, Int.reduceEq, Int.reduceNe, Int.reduceBEq, Int.reduceBNe, Int.reduceAdd, Int.reduceSub, Int.reduceMul, Int.reduceNeg,  encJc, *]))
        refine CallWP.to (rtfind_spec G ⟨p, _, vl⟩ C L HK.out.2.2.2 tag _ (HK.out.2.1.into (by (repeat refine Sub.fresh ?_ (by assumption)); exact Sub.refl _))) ?_
        rw [HF.out]
        repeat' (first | exact tf0 ‹_› | exact tf1 ‹_› | exact False.elim ‹_› | (with_reducible refine Al.intro ?_; intro pb hpb; (try simp only [hupd_none'] at hpb); (repeat rcases hpb with ⟨⟨hpx, hpy⟩, hpb⟩)) | with_reducible refine need ?_ | ((with_reducible first | apply frk0 | apply frk1 | apply frk2 | apply frk3 | apply frk4 | apply frk5 | apply frk6 | apply frk7 | apply frk8 | apply frk9) <;> intro h <;> try (exfalso; omega)) | with_reducible refine quiet_and ?_ ?_ | with_reducible refine awp_drawnA mixed (by decide +kernel) ?_ | ((fail_if_success with_reducible refine stp ?_); simp -implicitDefEqProofs only [go_sem, Nat.reduceEqDiff, Nat.reduceAdd, Nat.reduceLT, Nat.reduceMul, Nat.reduceSub, Nat.reduceLeDiff, ↓reduceIte, reduceCtorEq, ↓String.reduceEq, String.reduceNe, Int.reduceToNat, Int.reduceLT, Int.reduceLE, Int.reduceGT, Int.reduceGE, Int.reduceEq, Int.reduceNe, Int.reduceBEq, Int.reduceBNe, Int.reduceAdd, Int.reduceSub, Int.reduceMul, Int.reduceNeg,  encJc, *]))
        refine CallWP.to (find_spec G C HK.out.2.2.1 _ _ _ (.inl (HK.out.2.1.str.into (by (repeat refine Sub.fresh ?_ (by assumption)); exact Sub.refl _)))) ?_
        rw [HF2.out.1]
        repeat' (first | exact tf0 ‹_› | exact tf1 ‹_› | exact False.elim ‹_› | (with_reducible refine Al.intro ?_; intro pb hpb; (try simp only [hupd_none'] at hpb); (repeat rcases hpb with ⟨⟨hpx, hpy⟩, hpb⟩)) | with_reducible refine need ?_ | ((with_reducible first | apply frk0 | apply frk1 | apply frk2 | apply frk3 | apply frk4 | apply frk5 | apply frk6 | apply frk7 | apply frk8 | apply frk9) <;> intro h <;> try (exfalso; omega)) | with_reducible refine quiet_and ?_ ?_ | with_reducible refine awp_drawnA mixed (by decide +kernel) ?_ | ((fail_if_success with_reducible refine stp ?_); simp -implicitDefEqProofs only [go_sem, Nat.reduceEqDiff, Nat.reduceAdd, Nat.reduceLT, Nat.reduceMul, Nat.reduceSub, Nat.reduceLeDiff, ↓reduceIte, reduceCtorEq, ↓String.reduceEq, String.reduceNe, Int.reduceToNat, Int.reduceLT, Int.reduceLE, Int.reduceGT, Int.reduceGE, Int.reduceEq, Int.reduceNe, Int.reduceBEq, Int.reduceBNe, Int.reduceAdd, Int.reduceSub, Int.reduceMul, Int.reduceNeg,  encJc, *]))
        refine awp_drawnE [(0, .q), (1, .q), (2, .q), (3, .q), (4, .q), (5, .q), (6, .q), (7, .q), (8, .q), (9, .k), (10, .q), (11, .q), (12, .r [14]), (13, .q), (14, .e), (15, .q)] (fun k => match k with | 9 => .tuple [encJ (q0, q1, q2, q3), .int .i64 e] | _ => .undef) (fun _ => False) (fun _ _ => False) mixed (by decide +kernel) ?_
        repeat' (first | exact tf0 ‹_› | exact tf1 ‹_› | exact False.elim ‹_› | (with_reducible refine Al.intro ?_; intro pb hpb; (try simp only [hupd_none'] at hpb); (repeat rcases hpb with ⟨⟨hpx, hpy⟩, hpb⟩)) | with_reducible refine need ?_ | ((with_reducible first | apply frk0 | apply frk1 | apply frk2 | apply frk3 | apply frk4 | apply frk5 | apply frk6 | apply frk7 | apply frk8 | apply frk9) <;> intro h <;> try (exfalso; omega)) | with_reducible refine quiet_and ?_ ?_ | with_reducible refine awp_drawnA mixed (by decide +kernel) ?_ | ((fail_if_success with_reducible refine stp ?_); simp -implicitDefEqProofs only [go_sem, Nat.reduceEqDiff, Nat.reduceAdd, Nat.reduceLT, Nat.reduceMul, Nat.reduceSub, Nat.reduceLeDiff, ↓reduceIte, reduceCtorEq, ↓String.reduceEq, String.reduceNe, Int.reduceToNat, Int.reduceLT, Int.reduceLE, Int.reduceGT, Int.reduceGE, Int.reduceEq, Int.reduceNe, Int.reduceBEq, Int.reduceBNe, Int.reduceAdd, Int.reduceSub, Int.reduceMul, Int.reduceNeg,  encJc, encSc, encJ, *]))
        · exact fun m3 _ => HJ.out m3
        exact ⟨m, (by (repeat refine Sub.fresh ?_ (by assumption)); exact Sub.refl _), fin.out _ HT.out⟩
end Go.Proofs.YtdckcophbmnjjaaGreatDoor
namespace Go.Proofs.YtdckcophbmnjjaaGreatDoor
open Go Go.Proofs.YtdckcophbmnjjaaGreatDoor.Ab
open Go.Proofs (Tryz.prog)
set_option maxRecDepth 100000
set_option maxHeartbeats 4000000 in
theorem rtfate_spec (G : Nat → AVal) (R : Rtb) (C : List Stm) (L : List Ntd) (hL : L.length ≤ 100000) (tag k at1 : Int) (m : Heap) (hr : RRep R C L m) (K : AVal → Heap → Prop)
    (hK : ∀ m', RRep R C (fateF L tag k at1).2 m' → (∀ c, ¬ R.own c → m c ≠ none → m' c = m c) → K (.int .i64 (fateF L tag k at1).1) m') : CallWP Tryz.prog G 12 [.ptr R.p 0, .agg [.int .i64 tag, .int .i64 k, .int .i64 at1]] m K := by
  obtain ⟨p, vs, vl⟩ := R
  have HK := Hid.mk (And.intro hK (And.intro hr hL))
  have ktb := hr.tab
  simp only at ktb
  have frt : ∀ c, m c = none → (p = c) = False := fun c h => by rw [eq_iff_iff, iff_false]; exact seenB ktb h
  have fin : Hid (∀ c, fateF L tag k at1 = (c, L) → K (.int .i64 c) m) := .mk (fun c h => by
    have := HK.out.1 m (by rw [h]; exact HK.out.2.1) (fun c _ _ => rfl)
    rw [h] at this
    exact this)
  clear hK hr hL
  cases ht : tagIdx L tag with
  | none =>
    have HF := Hid.mk (tagF_no ht)
    have HT := Hid.mk (show fateF L tag k at1 = (7, L) by unfold fateF; rw [ht])
    clear ht
    refine callWP_body Tryz.func12 rfl (N := 57) rfl (rs := [.tmp 4]) rfl en_12 (of_decide_eq_true rfl) ?_
    repeat' (first | exact tf0 ‹_› | exact tf1 ‹_› | exact False.elim ‹_› | (with_reducible refine Al.intro ?_; intro pb hpb; (try simp only [hupd_none'] at hpb); (repeat rcases hpb with ⟨⟨hpx, hpy⟩, hpb⟩)) | with_reducible refine need ?_ | ((with_reducible first | apply frk0 | apply frk1 | apply frk2 | apply frk3 | apply frk4 | apply frk5 | apply frk6 | apply frk7 | apply frk8 | apply frk9) <;> intro h <;> try (exfalso; omega)) | with_reducible refine quiet_and ?_ ?_ | with_reducible refine awp_drawnA mixed (by decide +kernel) ?_ | ((fail_if_success with_reducible refine stp ?_); simp -implicitDefEqProofs only [go_sem, Nat.reduceEqDiff, Nat.reduceAdd, Nat.reduceLT, Nat.reduceMul, Nat.reduceSub, Nat.reduceLeDiff, ↓reduceIte, reduceCtorEq, ↓String.reduceEq, String.reduceNe, Int.reduceToNat, Int.reduceLT, Int.reduceLE, Int.reduceGT, Int.reduceGE, Int.reduceEq, Int.reduceNe, Int.reduceBEq, Int.reduceBNe, Int.reduceAdd, Int.reduceSub, Int.reduceMul, Int.reduceNeg,  *]))
    refine CallWP.to (rtfind_spec G ⟨p, vs, vl⟩ C L HK.out.2.2 tag _ (HK.out.2.1.into (by (repeat refine Sub.fresh ?_ (by assumption)); exact Sub.refl _))) ?_
    rw [HF.out]
    repeat' (first | exact tf0 ‹_› | exact tf1 ‹_› | exact False.elim ‹_› | (with_reducible refine Al.intro ?_; intro pb hpb; (try simp only [hupd_none'] at hpb); (repeat rcases hpb with ⟨⟨hpx, hpy⟩, hpb⟩)) | with_reducible refine need ?_ | ((with_reducible first | apply frk0 | apply frk1 | apply frk2 | apply frk3 | apply frk4 | apply frk5 | apply frk6 | apply frk7 | apply frk8 | apply frk9) <;> intro h <;> try (exfalso; omega)) | with_reducible refine quiet_and ?_ ?_ | with_reducible refine awp_drawnA mixed (by decide +kernel) ?_ | ((fail_if_success with_reducible refine stp ?_); simp -implicitDefEqProofs only [go_sem, Nat.reduceEqDiff, Nat.reduceAdd, Nat.reduceLT, Nat.reduceMul, Nat.reduceSub, Nat.reduceLeDiff, ↓reduceIte, reduceCtorEq, ↓String.reduceEq, String.reduceNe, Int.reduceToNat, Int.reduceLT, Int.reduceLE, Int.reduceGT, Int.reduceGE, Int.reduceEq, Int.reduceNe, Int.reduceBEq, Int.reduceBNe, Int.reduceAdd, Int.reduceSub, Int.reduceMul, Int.reduceNeg,  *]))
    exact ⟨m, (by (repeat refine Sub.fresh ?_ (by assumption)); exact Sub.refl _), fin.out _ HT.out⟩
  | some i =>
    have HF := Hid.mk (tagF_some ht)
    obtain ⟨hi, htg⟩ := tagIdx_lt ht
    have hF : fateF L tag k at1 = if k < 1 ∨ k > 5 then (10, L) else if (L.getD i default).2.2.1 ≠ 0 then (8, L) else if at1 < 0 ∨ at1 > 2251799813685248 then (1, L) else (0, L.set i ((L.getD i default).1, (L.getD i default).2.1, k, at1)) := by unfold fateF; rw [ht]
    have hv : ∃ b pre post N cap, vl = .slice b (pre : List AVal).length L.length cap ∧ m b = some (.cells (pre ++ (L.flatMap encNt ++ post)) N) ∧ pre.length + cap * 7 ≤ N ∧ L.length ≤ cap := by
      rcases HK.out.2.1.lst with ⟨_, h⟩ | ⟨b, blk, hb, pre, post, N, cap, h1, rfl, hN, hc⟩
      · rw [h] at hi; simp at hi
      · exact ⟨b, pre, post, N, cap, h1, hb, hN, hc⟩
    obtain ⟨b, pre, post, N, cap, hv, hb, hN, hc⟩ := hv
    have HN := Hid.mk (And.intro hN hc)
    clear hN hc
    subst hv
    have nbp : b ≠ p := fun e => HK.out.2.1.sepL (by rw [← e]; rfl)
    obtain ⟨n, hn⟩ : ∃ n, n = L.length := ⟨_, rfl⟩
    have H0 := Hid.mk hn
    rw [← hn] at ktb
    obtain ⟨x, hx⟩ : ∃ x, L.getD i default = x := ⟨_, rfl⟩
    have g1 := nt_cell L pre post i hi x hx 5 (by decide)
    rw [show (encNt x).getD 5 .undef = .int .i64 x.2.2.1 from rfl] at g1
    have l1 := nt_len L pre post i hi
    have lt1 : (i : Int) < (n : Int) := by omega
    have frb : ∀ c, m c = none → (b = c) = False := fun c h => by rw [eq_iff_iff, iff_false]; exact seenB hb h
    have frb2 : ∀ c, m c = none → (c = b) = False := fun c h => by rw [eq_iff_iff, iff_false]; exact Ne.symm (seenB hb h)
    have frn : (b = p) = False := by rw [eq_iff_iff, iff_false]; exact nbp
    have frn2 : (p = b) = False := by rw [eq_iff_iff, iff_false]; exact Ne.symm nbp
    rw [hx] at hF
    have HX := Hid.mk (And.intro hi hx)
    have hng : ¬ (i : Int) < 0 := by omega
    clear ht htg hi hx hn
    by_cases hk : k < 1 ∨ k > 5
    · have HT := Hid.mk (hF.trans (if_pos hk))
      clear hF
      by_cases h1 : k < 1
      · refine callWP_body Tryz.func12 rfl (N := 57) rfl (rs := [.tmp 4]) rfl en_12 (of_decide_eq_true rfl) ?_
        repeat' (first | exact tf0 ‹_› | exact tf1 ‹_› | exact False.elim ‹_› | (with_reducible refine Al.intro ?_; intro pb hpb; (try simp only [hupd_none'] at hpb); (repeat rcases hpb with ⟨⟨hpx, hpy⟩, hpb⟩)) | with_reducible refine need ?_ | ((with_reducible first | apply frk0 | apply frk1 | apply frk2 | apply frk3 | apply frk4 | apply frk5 | apply frk6 | apply frk7 | apply frk8 | apply frk9) <;> intro h <;> try (exfalso; omega)) | with_reducible refine quiet_and ?_ ?_ | with_reducible refine awp_drawnA mixed (by decide +kernel) ?_ | ((fail_if_success with_reducible refine stp ?_); simp -implicitDefEqProofs only [go_sem, Nat.reduceEqDiff, Nat.reduceAdd, Nat.reduceLT, Nat.reduceMul, Nat.reduceSub, Nat.reduceLeDiff, ↓reduceIte, reduceCtorEq, ↓String.reduceEq, String.reduceNe, Int.reduceToNat, Int.reduceLT, Int.reduceLE, Int.reduceGT, Int.reduceGE, Int.reduceEq, Int.reduceNe, Int.reduceBEq, Int.reduceBNe, Int.reduceAdd, Int.reduceSub, Int.reduceMul, Int.reduceNeg,  *]))
        refine CallWP.to (rtfind_spec G ⟨p, vs, _⟩ C L HK.out.2.2 tag _ (HK.out.2.1.into (by (repeat refine Sub.fresh ?_ (by assumption)); exact Sub.refl _))) ?_
        rw [HF.out]
        repeat' (first | exact tf0 ‹_› | exact tf1 ‹_› | exact False.elim ‹_› | (with_reducible refine Al.intro ?_; intro pb hpb; (try simp only [hupd_none'] at hpb); (repeat rcases hpb with ⟨⟨hpx, hpy⟩, hpb⟩)) | with_reducible refine need ?_ | ((with_reducible first | apply frk0 | apply frk1 | apply frk2 | apply frk3 | apply frk4 | apply frk5 | apply frk6 | apply frk7 | apply frk8 | apply frk9) <;> intro h <;> try (exfalso; omega)) | with_reducible refine quiet_and ?_ ?_ | with_reducible refine awp_drawnA mixed (by decide +kernel) ?_ | ((fail_if_success with_reducible refine stp ?_); simp -implicitDefEqProofs only [go_sem, Nat.reduceEqDiff, Nat.reduceAdd, Nat.reduceLT, Nat.reduceMul, Nat.reduceSub, Nat.reduceLeDiff, ↓reduceIte, reduceCtorEq, ↓String.reduceEq, String.reduceNe, Int.reduceToNat, Int.reduceLT, Int.reduceLE, Int.reduceGT, Int.reduceGE, Int.reduceEq, Int.reduceNe, Int.reduceBEq, Int.reduceBNe, Int.reduceAdd, Int.reduceSub, Int.reduceMul, Int.reduceNeg,  *]))
        exact ⟨m, (by (repeat refine Sub.fresh ?_ (by assumption)); exact Sub.refl _), fin.out _ HT.out⟩
      · have h2 : k > 5 := by omega
        refine callWP_body Tryz.func12 rfl (N := 57) rfl (rs := [.tmp 4]) rfl en_12 (of_decide_eq_true rfl) ?_
        repeat' (first | exact tf0 ‹_› | exact tf1 ‹_› | exact False.elim ‹_› | (with_reducible refine Al.intro ?_; intro pb hpb; (try simp only [hupd_none'] at hpb); (repeat rcases hpb with ⟨⟨hpx, hpy⟩, hpb⟩)) | with_reducible refine need ?_ | ((with_reducible first | apply frk0 | apply frk1 | apply frk2 | apply frk3 | apply frk4 | apply frk5 | apply frk6 | apply frk7 | apply frk8 | apply frk9) <;> intro h <;> try (exfalso; omega)) | with_reducible refine quiet_and ?_ ?_ | with_reducible refine awp_drawnA mixed (by decide +kernel) ?_ | ((fail_if_success with_reducible refine stp ?_); simp -implicitDefEqProofs only [go_sem, Nat.reduceEqDiff, Nat.reduceAdd, Nat.reduceLT, Nat.reduceMul, Nat.reduceSub, Nat.reduceLeDiff, ↓reduceIte, reduceCtorEq, ↓String.reduceEq, String.reduceNe, Int.reduceToNat, Int.reduceLT, Int.reduceLE, Int.reduceGT, Int.reduceGE, Int.reduceEq, Int.reduceNe, Int.reduceBEq, Int.reduceBNe, Int.reduceAdd, Int.reduceSub, Int.reduceMul, Int.reduceNeg,  *]))
        refine CallWP.to (rtfind_spec G ⟨p, vs, _⟩ C L HK.out.2.2 tag _ (HK.out.2.1.into (by (repeat refine Sub.fresh ?_ (by assumption)); exact Sub.refl _))) ?_
        rw [HF.out]
        repeat' (first | exact tf0 ‹_› | exact tf1 ‹_› | exact False.elim ‹_› | (with_reducible refine Al.intro ?_; intro pb hpb; (try simp only [hupd_none'] at hpb); (repeat rcases hpb with ⟨⟨hpx, hpy⟩, hpb⟩)) | with_reducible refine need ?_ | ((with_reducible first | apply frk0 | apply frk1 | apply frk2 | apply frk3 | apply frk4 | apply frk5 | apply frk6 | apply frk7 | apply frk8 | apply frk9) <;> intro h <;> try (exfalso; omega)) | with_reducible refine quiet_and ?_ ?_ | with_reducible refine awp_drawnA mixed (by decide +kernel) ?_ | ((fail_if_success with_reducible refine stp ?_); simp -implicitDefEqProofs only [go_sem, Nat.reduceEqDiff, Nat.reduceAdd, Nat.reduceLT, Nat.reduceMul, Nat.reduceSub, Nat.reduceLeDiff, ↓reduceIte, reduceCtorEq, ↓String.reduceEq, String.reduceNe, Int.reduceToNat, Int.reduceLT, Int.reduceLE, Int.reduceGT, Int.reduceGE, Int.reduceEq, Int.reduceNe, Int.reduceBEq, Int.reduceBNe, Int.reduceAdd, Int.reduceSub, Int.reduceMul, Int.reduceNeg,  *]))
        exact ⟨m, (by (repeat refine Sub.fresh ?_ (by assumption)); exact Sub.refl _), fin.out _ HT.out⟩
    · have hk1 : ¬ k < 1 := fun h => hk (.inl h)
      have hk5 : ¬ k > 5 := fun h => hk (.inr h)
      rw [if_neg hk] at hF
      obtain ⟨xt, ⟨q0, q1, q2, q3⟩, xf, xa⟩ := x
      simp only at hF g1
      by_cases hxf : xf = 0
      · subst hxf
        rw [if_neg (by simp)] at hF
        by_cases ha : at1 < 0 ∨ at1 > 2251799813685248
        · have HT := Hid.mk (hF.trans (if_pos ha))
          clear hF
          by_cases h1 : at1 < 0
          · refine callWP_body Tryz.func12 rfl (N := 57) rfl (rs := [.tmp 4]) rfl en_12 (of_decide_eq_true rfl) ?_
            repeat' (first | exact tf0 ‹_› | exact tf1 ‹_› | exact False.elim ‹_› | (with_reducible refine Al.intro ?_; intro pb hpb; (try simp only [hupd_none'] at hpb); (repeat rcases hpb with ⟨⟨hpx, hpy⟩, hpb⟩)) | with_reducible refine need ?_ | ((with_reducible first | apply frk0 | apply frk1 | apply frk2 | apply frk3 | apply frk4 | apply frk5 | apply frk6 | apply frk7 | apply frk8 | apply frk9) <;> intro h <;> try (exfalso; omega)) | with_reducible refine quiet_and ?_ ?_ | with_reducible refine awp_drawnA mixed (by decide +kernel) ?_ | ((fail_if_success with_reducible refine stp ?_); simp -implicitDefEqProofs only [go_sem, Nat.reduceEqDiff, Nat.reduceAdd, Nat.reduceLT, Nat.reduceMul, Nat.reduceSub, Nat.reduceLeDiff, ↓reduceIte, reduceCtorEq, ↓String.reduceEq, String.reduceNe, Int.reduceToNat, Int.reduceLT, Int.reduceLE, Int.reduceGT, Int.reduceGE, Int.reduceEq, Int.reduceNe, Int.reduceBEq, Int.reduceBNe, Int.reduceAdd, Int.reduceSub, Int.reduceMul, Int.reduceNeg,  *]))
            refine CallWP.to (rtfind_spec G ⟨p, vs, _⟩ C L HK.out.2.2 tag _ (HK.out.2.1.into (by (repeat refine Sub.fresh ?_ (by assumption)); exact Sub.refl _))) ?_
            rw [HF.out]
            repeat' (first | exact tf0 ‹_› | exact tf1 ‹_› | exact False.elim ‹_› | (with_reducible refine Al.intro ?_; intro pb hpb; (try simp only [hupd_none'] at hpb); (repeat rcases hpb with ⟨⟨hpx, hpy⟩, hpb⟩)) | with_reducible refine need ?_ | ((with_reducible first | apply frk0 | apply frk1 | apply frk2 | apply frk3 | apply frk4 | apply frk5 | apply frk6 | apply frk7 | apply frk8 | apply frk9) <;> intro h <;> try (exfalso; omega)) | with_reducible refine quiet_and ?_ ?_ | with_reducible refine awp_drawnA mixed (by decide +kernel) ?_ | ((fail_if_success with_reducible refine stp ?_); simp -implicitDefEqProofs only [go_sem, Nat.reduceEqDiff, Nat.reduceAdd, Nat.reduceLT, Nat.reduceMul, Nat.reduceSub, Nat.reduceLeDiff, ↓reduceIte, reduceCtorEq, ↓String.reduceEq, String.reduceNe, Int.reduceToNat, Int.reduceLT, Int.reduceLE, Int.reduceGT, Int.reduceGE, Int.reduceEq, Int.reduceNe, Int.reduceBEq, Int.reduceBNe, Int.reduceAdd, Int.reduceSub, Int.reduceMul, Int.reduceNeg,  *]))
            exact ⟨m, (by (repeat refine Sub.fresh ?_ (by assumption)); exact Sub.refl _), fin.out _ HT.out⟩
          · have h2 : at1 > 2251799813685248 := by omega
            refine callWP_body Tryz.func12 rfl (N := 57) rfl (rs := [.tmp 4]) rfl en_12 (of_decide_eq_true rfl) ?_
            repeat' (first | exact tf0 ‹_› | exact tf1 ‹_› | exact False.elim ‹_› | (with_reducible refine Al.intro ?_; intro pb hpb; (try simp only [hupd_none'] at hpb); (repeat rcases hpb with ⟨⟨hpx, hpy⟩, hpb⟩)) | with_reducible refine need ?_ | ((with_reducible first | apply frk0 | apply frk1 | apply frk2 | apply frk3 | apply frk4 | apply frk5 | apply frk6 | apply frk7 | apply frk8 | apply frk9) <;> intro h <;> try (exfalso; omega)) | with_reducible refine quiet_and ?_ ?_ | with_reducible refine awp_drawnA mixed (by decide +kernel) ?_ | ((fail_if_success with_reducible refine stp ?_); simp -implicitDefEqProofs only [go_sem, Nat.reduceEqDiff, Nat.reduceAdd, Nat.reduceLT, Nat.reduceMul, Nat.reduceSub, Nat.reduceLeDiff, ↓reduceIte, reduceCtorEq, ↓String.reduceEq, String.reduceNe, Int.reduceToNat, Int.reduceLT, Int.reduceLE, Int.reduceGT, Int.reduceGE, Int.reduceEq, Int.reduceNe, Int.reduceBEq, Int.reduceBNe, Int.reduceAdd, Int.reduceSub, Int.reduceMul, Int.reduceNeg,  *]))
            refine CallWP.to (rtfind_spec G ⟨p, vs, _⟩ C L HK.out.2.2 tag _ (HK.out.2.1.into (by (repeat refine Sub.fresh ?_ (by assumption)); exact Sub.refl _))) ?_
            rw [HF.out]
            repeat' (first | exact tf0 ‹_› | exact tf1 ‹_› | exact False.elim ‹_› | (with_reducible refine Al.intro ?_; intro pb hpb; (try simp only [hupd_none'] at hpb); (repeat rcases hpb with ⟨⟨hpx, hpy⟩, hpb⟩)) | with_reducible refine need ?_ | ((with_reducible first | apply frk0 | apply frk1 | apply frk2 | apply frk3 | apply frk4 | apply frk5 | apply frk6 | apply frk7 | apply frk8 | apply frk9) <;> intro h <;> try (exfalso; omega)) | with_reducible refine quiet_and ?_ ?_ | with_reducible refine awp_drawnA mixed (by decide +kernel) ?_ | ((fail_if_success with_reducible refine stp ?_); simp -implicitDefEqProofs only [go_sem, Nat.reduceEqDiff, Nat.reduceAdd, Nat.reduceLT, Nat.reduceMul, Nat.reduceSub, Nat.reduceLeDiff, ↓reduceIte, reduceCtorEq, ↓String.reduceEq, String.reduceNe, Int.reduceToNat, Int.reduceLT, Int.reduceLE, Int.reduceGT, Int.reduceGE, Int.reduceEq, Int.reduceNe, Int.reduceBEq, Int.reduceBNe, Int.reduceAdd, Int.reduceSub, Int.reduceMul, Int.reduceNeg,  *]))
            exact ⟨m, (by (repeat refine Sub.fresh ?_ (by assumption)); exact Sub.refl _), fin.out _ HT.out⟩
        · have HT := Hid.mk (hF.trans (if_neg ha))
          have ha1 : ¬ at1 < 0 := fun h => ha (.inl h)
          have ha2 : ¬ at1 > 2251799813685248 := fun h => ha (.inr h)
          have s1 := nt_put L pre post i HX.out.1 (xt, (q0, q1, q2, q3), k, xa) 5 (by decide) (.int .i64 k) (by rw [HX.out.2]; rfl)
          obtain ⟨L1, hL1⟩ : ∃ L1, L.set i (xt, (q0, q1, q2, q3), k, xa) = L1 := ⟨_, rfl⟩
          rw [hL1] at s1
          have hi1 : i < L1.length := by rw [← hL1, List.length_set]; exact HX.out.1
          have s2 := nt_put L1 pre post i hi1 (xt, (q0, q1, q2, q3), k, at1) 6 (by decide) (.int .i64 at1) (by rw [← hL1, getD_getN (by rw [List.length_set]; exact HX.out.1), List.getElem_set_self]; rfl)
          have hL2 : L1.set i (xt, (q0, q1, q2, q3), k, at1) = L.set i (xt, (q0, q1, q2, q3), k, at1) := by rw [← hL1, List.set_set]
          rw [hL2] at s2
          have l2 := nt_len L1 pre post i hi1
          have HL := Hid.mk (And.intro hL1 hi1)
          clear hF fin hk ha hL1 hi1 hL2
          refine callWP_body Tryz.func12 rfl (N := 57) rfl (rs := [.tmp 4]) rfl en_12 (of_decide_eq_true rfl) ?_
          repeat' (first | exact tf0 ‹_› | exact tf1 ‹_› | exact False.elim ‹_› | (with_reducible refine Al.intro ?_; intro pb hpb; (try simp only [hupd_none'] at hpb); (repeat rcases hpb with ⟨⟨hpx, hpy⟩, hpb⟩)) | with_reducible refine need ?_ | ((with_reducible first | apply frk0 | apply frk1 | apply frk2 | apply frk3 | apply frk4 | apply frk5 | apply frk6 | apply frk7 | apply frk8 | apply frk9) <;> intro h <;> try (exfalso; omega)) | with_reducible refine quiet_and ?_ ?_ | with_reducible refine awp_drawnA mixed (by decide +kernel) ?_ | ((fail_if_success with_reducible refine stp ?_); simp -implicitDefEqProofs only [go_sem, Nat.reduceEqDiff, Nat.reduceAdd, Nat.reduceLT, Nat.reduceMul, Nat.reduceSub, Nat.reduceLeDiff, ↓reduceIte, reduceCtorEq, ↓String.reduceEq, String.reduceNe, Int.reduceToNat, Int.reduceLT, Int.reduceLE, Int.reduceGT, Int.reduceGE, Int.reduceEq, Int.reduceNe, Int.reduceBEq, Int.reduceBNe, Int.reduceAdd, Int.reduceSub, Int.reduceMul, Int.reduceNeg,  *]))
          refine CallWP.to (rtfind_spec G ⟨p, vs, _⟩ C L HK.out.2.2 tag _ (HK.out.2.1.into (by (repeat refine Sub.fresh ?_ (by assumption)); exact Sub.refl _))) ?_
          rw [HF.out]
          repeat' (first | exact tf0 ‹_› | exact tf1 ‹_› | exact False.elim ‹_› | (with_reducible refine Al.intro ?_; intro pb hpb; (try simp only [hupd_none'] at hpb); (repeat rcases hpb with ⟨⟨hpx, hpy⟩, hpb⟩)) | with_reducible refine need ?_ | ((with_reducible first | apply frk0 | apply frk1 | apply frk2 | apply frk3 | apply frk4 | apply frk5 | apply frk6 | apply frk7 | apply frk8 | apply frk9) <;> intro h <;> try (exfalso; omega)) | with_reducible refine quiet_and ?_ ?_ | with_reducible refine awp_drawnA mixed (by decide +kernel) ?_ | ((fail_if_success with_reducible refine stp ?_); simp -implicitDefEqProofs only [go_sem, Nat.reduceEqDiff, Nat.reduceAdd, Nat.reduceLT, Nat.reduceMul, Nat.reduceSub, Nat.reduceLeDiff, ↓reduceIte, reduceCtorEq, ↓String.reduceEq, String.reduceNe, Int.reduceToNat, Int.reduceLT, Int.reduceLE, Int.reduceGT, Int.reduceGE, Int.reduceEq, Int.reduceNe, Int.reduceBEq, Int.reduceBNe, Int.reduceAdd, Int.reduceSub, Int.reduceMul, Int.reduceNeg,  *]))
          refine ⟨hupd m b (.cells (pre ++ ((L.set i (xt, (q0, q1, q2, q3), k, at1)).flatMap encNt ++ post)) N), fun c y hc => ?_, ?_⟩
          · by_cases e : c = b
            · rw [e, hupd_at, if_pos rfl] at hc ⊢; exact hc
            · rw [hupd_ne e] at hc ⊢
              rw [hupd_ne (fun e2 => by rw [e2, hpb] at hc; cases hc)]; exact hc
          have hfin := HK.out.1 (hupd m b (.cells (pre ++ ((L.set i (xt, (q0, q1, q2, q3), k, at1)).flatMap encNt ++ post)) N))
          rw [HT.out] at hfin
          have HR := HK.out.2.1
          refine hfin ⟨by rw [hupd_ne (Ne.symm nbp)]; exact HR.tab, ?_, ?_, HR.sepS, HR.sepL, HR.sepX⟩ (fun c ho _ => hupd_ne (fun e => ho (.inr (by rw [e]; rfl))))
          · exact HR.str.keep (fun c hc => hupd_ne (fun e => HR.sepX c hc (by rw [e]; rfl)))
          · exact .inr ⟨b, _, by rw [hupd_at, if_pos rfl], pre, post, N, cap, by rw [List.length_set], rfl, HN.out.1, by rw [List.length_set]; exact HN.out.2⟩
      · rw [if_pos hxf] at hF
        have HT := Hid.mk hF
        have hxb : (xf != 0) = true := by simpa using hxf
        clear hF hxf
        refine callWP_body Tryz.func12 rfl (N := 57) rfl (rs := [.tmp 4]) rfl en_12 (of_decide_eq_true rfl) ?_
        repeat' (first | exact tf0 ‹_› | exact tf1 ‹_› | exact False.elim ‹_› | (with_reducible refine Al.intro ?_; intro pb hpb; (try simp only [hupd_none'] at hpb); (repeat rcases hpb with ⟨⟨hpx, hpy⟩, hpb⟩)) | with_reducible refine need ?_ | ((with_reducible first | apply frk0 | apply frk1 | apply frk2 | apply frk3 | apply frk4 | apply frk5 | apply frk6 | apply frk7 | apply frk8 | apply frk9) <;> intro h <;> try (exfalso; omega)) | with_reducible refine quiet_and ?_ ?_ | with_reducible refine awp_drawnA mixed (by decide +kernel) ?_ | ((fail_if_success with_reducible refine stp ?_); simp -implicitDefEqProofs only [go_sem, Nat.reduceEqDiff, Nat.reduceAdd, Nat.reduceLT, Nat.reduceMul, Nat.reduceSub, Nat.reduceLeDiff, ↓reduceIte, reduceCtorEq, ↓String.reduceEq, String.reduceNe, Int.reduceToNat, Int.reduceLT, Int.reduceLE, Int.reduceGT, Int.reduceGE, Int.reduceEq, Int.reduceNe, Int.reduceBEq, Int.reduceBNe, Int.reduceAdd, Int.reduceSub, Int.reduceMul, Int.reduceNeg,  *]))
        refine CallWP.to (rtfind_spec G ⟨p, vs, _⟩ C L HK.out.2.2 tag _ (HK.out.2.1.into (by (repeat refine Sub.fresh ?_ (by assumption)); exact Sub.refl _))) ?_
        rw [HF.out]
        repeat' (first | exact tf0 ‹_› | exact tf1 ‹_› | exact False.elim ‹_› | (with_reducible refine Al.intro ?_; intro pb hpb; (try simp only [hupd_none'] at hpb); (repeat rcases hpb with ⟨⟨hpx, hpy⟩, hpb⟩)) | with_reducible refine need ?_ | ((with_reducible first | apply frk0 | apply frk1 | apply frk2 | apply frk3 | apply frk4 | apply frk5 | apply frk6 | apply frk7 | apply frk8 | apply frk9) <;> intro h <;> try (exfalso; omega)) | with_reducible refine quiet_and ?_ ?_ | with_reducible refine awp_drawnA mixed (by decide +kernel) ?_ | ((fail_if_success with_reducible refine stp ?_); simp -implicitDefEqProofs only [go_sem, Nat.reduceEqDiff, Nat.reduceAdd, Nat.reduceLT, Nat.reduceMul, Nat.reduceSub, Nat.reduceLeDiff, ↓reduceIte, reduceCtorEq, ↓String.reduceEq, String.reduceNe, Int.reduceToNat, Int.reduceLT, Int.reduceLE, Int.reduceGT, Int.reduceGE, Int.reduceEq, Int.reduceNe, Int.reduceBEq, Int.reduceBNe, Int.reduceAdd, Int.reduceSub, Int.reduceMul, Int.reduceNeg,  *]))
        exact ⟨m, (by (repeat refine Sub.fresh ?_ (by assumption)); exact Sub.refl _), fin.out _ HT.out⟩
end Go.Proofs.YtdckcophbmnjjaaGreatDoor
