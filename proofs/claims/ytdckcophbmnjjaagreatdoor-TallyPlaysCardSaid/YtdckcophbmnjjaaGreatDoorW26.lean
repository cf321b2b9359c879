/- What is open still, the document's way; rows of numbers that are the same. -/
import Derived.Test.YtdckcophbmnjjaaGreatDoorW25
set_option linter.all false
namespace Go.Proofs.YtdckcophbmnjjaaGreatDoor
open Go Go.Proofs.YtdckcophbmnjjaaGreatDoor.Ab
open Go.Proofs (Tryz.prog)
set_option maxRecDepth 100000
theorem slm_take {α : Type} {enc : α → List AVal} {sz : Nat} (henc : ∀ a, (enc a).length = sz) {X : List α} {b o c : Nat} {n : Nat} {m : Heap} (h : SlM enc sz X (.slice b o n c) m) (k : Nat) (hk : k ≤ n) : SlM enc sz (X.take k) (.slice b o k c) m := by
  obtain ⟨pre, post, N, rfl, rfl, hb, hN, hc⟩ := slm_slice h
  refine .inr ⟨b, _, hb, pre, (X.drop k).flatMap enc ++ post, N, c, by rw [List.length_take_of_le hk], ?_, hN, by rw [List.length_take_of_le hk]; omega⟩
  congr 1
  rw [← List.append_assoc (List.flatMap enc (X.take k)), ← List.flatMap_append, List.take_append_drop]
theorem slm_drop {α : Type} {enc : α → List AVal} {sz : Nat} (henc : ∀ a, (enc a).length = sz) {X : List α} {b o c : Nat} {n : Nat} {m : Heap} (h : SlM enc sz X (.slice b o n c) m) (k : Nat) (hk : k ≤ n) : SlM enc sz (X.drop k) (.slice b (if c = k then o else o + k * sz) (n - k) (c - k)) m := by
  obtain ⟨pre, post, N, rfl, rfl, hb, hN, hc⟩ := slm_slice h
  by_cases e : c = k
  · have e2 : X.drop k = [] := List.drop_of_length_le (by omega)
    rw [if_pos e, e2]
    exact .inr ⟨b, _, hb, pre, X.flatMap enc ++ post, N, c - k, by simp; omega, by simp, by subst e; rw [Nat.sub_self]; omega, by simp⟩
  · rw [if_neg e]
    refine .inr ⟨b, _, hb, pre ++ (X.take k).flatMap enc, post, N, c - k, ?_, ?_, ?_, by rw [List.length_drop]; omega⟩
    · rw [List.length_append, flat_len henc, List.length_take_of_le hk, List.length_drop]
    · congr 1
      rw [List.append_assoc, ← List.append_assoc (List.flatMap enc (X.take k)), ← List.flatMap_append, List.take_append_drop]
    · rw [List.length_append, flat_len henc, List.length_take_of_le hk, Nat.sub_mul]
      have : k * sz ≤ c * sz := Nat.mul_le_mul_right _ (by omega)
      omega
/-- Where a number comes in a row. -/
def plc (X : List Int) (t : Int) : Nat := (X.takeWhile fun x => decide (x < t)).length
theorem plc_le (X : List Int) (t : Int) : plc X t ≤ X.length := (List.takeWhile_sublist _).length_le
theorem plc_lt : ∀ (X : List Int) (t : Int) (j : Nat), j < plc X t → X.getD j 0 < t
  | [], t, j, h => by simp [plc] at h
  | a :: X, t, j, h => by
    unfold plc at h
    by_cases e : a < t
    · rw [List.takeWhile_cons_of_pos (by simpa using e), List.length_cons] at h
      cases j with
      | zero => simpa using e
      | succ j => rw [List.getD_cons_succ]; exact plc_lt X t j (by unfold plc; omega)
    · rw [List.takeWhile_cons_of_neg (by simpa using e)] at h; simp at h
theorem plc_at : ∀ (X : List Int) (t : Int), plc X t < X.length → ¬ X.getD (plc X t) 0 < t
  | [], t, h => by simp at h
  | a :: X, t, h => by
    unfold plc at h ⊢
    by_cases e : a < t
    · rw [List.takeWhile_cons_of_pos (by simpa using e), List.length_cons] at h ⊢
      rw [List.getD_cons_succ]; exact plc_at X t (by unfold plc; simp at h ⊢; omega)
    · rw [List.takeWhile_cons_of_neg (by simpa using e)]; simpa using e
theorem ins_srt (A : List Int) (t : Int) : srtI (A ++ [t]) = (srtI A).take (plc (srtI A) t) ++ ([t] ++ (srtI A).drop (plc (srtI A) t)) := by
  have hs := srt_le A
  have hp : (srtI (A ++ [t])).Perm ((srtI A).take (plc (srtI A) t) ++ ([t] ++ (srtI A).drop (plc (srtI A) t))) := by
    refine (List.mergeSort_perm _ _).trans ?_
    refine (List.Perm.append_right [t] (List.mergeSort_perm A fun x y => decide (x ≤ y)).symm).trans ?_
    show (srtI A ++ [t]).Perm _
    conv => lhs; rw [← List.take_append_drop (plc (srtI A) t) (srtI A)]
    rw [List.append_assoc]
    exact List.Perm.append_left _ List.perm_append_comm
  refine List.Perm.eq_of_pairwise (le := (· ≤ ·)) (fun x y _ _ a b => Int.le_antisymm a b) (srt_le _) ?_ hp
  generalize srtI A = X at *
  have h1 : ∀ x ∈ X.take (plc X t), x < t := fun x hx => by
    obtain ⟨j, hj, rfl⟩ := List.getElem_of_mem hx
    rw [List.length_take] at hj
    have := plc_lt X t j (by omega)
    rw [List.getElem_take]
    simpa [List.getD_eq_getElem?_getD, show j < X.length by omega] using this
  have h2 : ∀ x ∈ X.drop (plc X t), t ≤ x := fun x hx => by
    obtain ⟨j, hj, rfl⟩ := List.getElem_of_mem hx
    rw [List.length_drop] at hj
    have hn := plc_at X t (by omega)
    have hn' : ¬ X[plc X t]'(by omega) < t := by simpa [List.getD_eq_getElem?_getD, show plc X t < X.length by omega] using hn
    rw [List.getElem_drop]
    cases j with
    | zero => simp only [Nat.add_zero]; omega
    | succ j =>
      have := List.pairwise_iff_getElem.1 hs (plc X t) (plc X t + (j + 1)) (by omega) (by omega) (by omega)
      omega
  rw [List.pairwise_append]
  refine ⟨hs.sublist (List.take_sublist _ _), ?_, fun a ha b hb => ?_⟩
  · rw [List.pairwise_append]
    exact ⟨by simp, hs.sublist (List.drop_sublist _ _), fun a ha b hb => by rw [List.mem_singleton.1 ha]; exact h2 b hb⟩
  · rcases List.mem_append.1 hb with h | h
    · rw [List.mem_singleton.1 h]; exact Int.le_of_lt (h1 a ha)
    · exact Int.le_trans (Int.le_of_lt (h1 a ha)) (h2 b h)
theorem opens_add (M : List Ntd) (x : Ntd) : opensL (M ++ [x]) = opensL M ++ (if x.2.2.1 = 0 then [x.1] else []) := by
  unfold opensL
  rw [List.filter_append, List.map_append]
  congr 1
  split
  · rename_i h; rw [List.filter_cons_of_pos (by simpa using h)]; rfl
  · rename_i h; rw [List.filter_cons_of_neg (by simpa using h)]; rfl
def EmpS (v : AVal) : Prop := v = .nils ∨ (∃ b o c, v = .slice b o 0 c) ∨ v = .list 1 []
theorem n_at (C : List Int) (pre post : List AVal) (i : Nat) (hi : i < C.length) (x : Int) (hx : C.getD i default = x) : (pre ++ (C.flatMap encN ++ post)).getD (pre.length + i) .undef = .int .i64 x ∧ pre.length + i < (pre ++ (C.flatMap encN ++ post)).length := by
  have l : (C.flatMap encN).length = C.length := by rw [encN_map, List.length_map]
  refine ⟨?_, by rw [List.length_append, List.length_append, l]; omega⟩
  rw [encN_map, List.getD_eq_getElem?_getD, List.getElem?_append_right (by omega), Nat.add_sub_cancel_left, List.getElem?_append_left (by simpa using hi), ← hx]
  simp [List.getD_eq_getElem?_getD, hi]
set_option maxHeartbeats 4000000 in
theorem sameI_spec (G : Nat → AVal) (C : List Int) (hl : C.length ≤ 100000) (v1 v2 : AVal) (m : Heap) (h1 : SlM encN 1 C v1 m) (h2 : SlM encN 1 C v2 m) (K : AVal → Heap → Prop) (hK : K (.bool true) m) : CallWP Tryz.prog G 36 [v1, v2] m K := by
  have HK := Hid.mk hK
  have HA := Hid.mk h1
  have HB := Hid.mk h2
  obtain ⟨L, hL⟩ : ∃ L, L = C.length := ⟨_, rfl⟩
  have H0 := Hid.mk hL
  have hLL : L ≤ 100000 := by omega
  have s1 : (v1 = .nils ∧ L = 0) ∨ ∃ b o cap, v1 = .slice b o L cap := by
    rcases h1.slv with ⟨a, b⟩ | h
    · exact .inl ⟨a, by rw [hL, b]; rfl⟩
    · rw [hL]; exact .inr h
  have s2 : (v2 = .nils ∧ L = 0) ∨ ∃ b o cap, v2 = .slice b o L cap := by
    rcases h2.slv with ⟨a, b⟩ | h
    · exact .inl ⟨a, by rw [hL, b]; rfl⟩
    · rw [hL]; exact .inr h
  clear hK h1 h2 hL hl
  by_cases h0 : L = 0
  · subst h0
    rcases s1 with ⟨rfl, -⟩ | ⟨b1, o1, c1, rfl⟩ <;> rcases s2 with ⟨rfl, -⟩ | ⟨b2, o2, c2, rfl⟩
    all_goals (
      refine callWP_body Tryz.func36 rfl (N := 26) rfl (rs := [.tmp 4]) rfl en_36 (of_decide_eq_true rfl) ?_
      repeat' (first | exact tf0 ‹_› | exact tf1 ‹_› | exact False.elim ‹_› | (with_reducible refine Al.intro ?_; intro pb hpb; (try simp only [hupd_none'] at hpb); (repeat rcases hpb with ⟨⟨hpx, hpy⟩, hpb⟩)) | with_reducible refine need ?_ | ((with_reducible first | apply frk0 | apply frk1 | apply frk2 | apply frk3 | apply frk4 | apply frk5 | apply frk6 | apply frk7 | apply frk8 | apply frk9) <;> intro h <;> try (exfalso; omega)) | with_reducible refine quiet_and ?_ ?_ | with_reducible refine awp_drawnA mixed (by decide +kernel) ?_ | ((fail_if_success with_reducible refine stp ?_); simp -implicitDefEqProofs only [go_sem, Nat.reduceEqDiff, Nat.reduceAdd, Nat.reduceLT, Nat.reduceMul, Nat.reduceSub, Nat.reduceLeDiff, ↓reduceIte, reduceCtorEq, ↓String.reduceEq, String.reduceNe, Int.reduceToNat, Int.reduceLT, Int.reduceLE, Int.reduceGT, Int.reduceGE, Int.reduceEq, Int.reduceNe, Int.reduceBEq, Int.reduceBNe, Int.reduceAdd, Int.reduceSub, Int.reduceMul, Int.reduceNeg,  *]))
      refine awp_loopP 0 (fun ts m' => m' = m) (fun k ts m' => EmpS (ts 0) ∧ ts 5 = .int .i64 0 ∧ m' = m) 0 ⟨by first | exact .inl (ttt) | exact .inr (.inl ⟨_, _, _, ttt⟩) | exact .inr (.inr (ttt)), ttt, rfl⟩ ?_ ?_
      · rintro k ts m' ⟨e0, t5, rfl⟩
        rcases e0 with t0 | ⟨b3, o3, c3, t0⟩ | t0
        all_goals (
          repeat' (first | exact tf0 ‹_› | exact tf1 ‹_› | exact False.elim ‹_› | (with_reducible refine Al.intro ?_; intro pb hpb; (try simp only [hupd_none'] at hpb); (repeat rcases hpb with ⟨⟨hpx, hpy⟩, hpb⟩)) | with_reducible refine need ?_ | ((with_reducible first | apply frk0 | apply frk1 | apply frk2 | apply frk3 | apply frk4 | apply frk5 | apply frk6 | apply frk7 | apply frk8 | apply frk9) <;> intro h <;> try (exfalso; omega)) | with_reducible refine quiet_and ?_ ?_ | with_reducible refine awp_drawnA mixed (by decide +kernel) ?_ | ((fail_if_success with_reducible refine stp ?_); simp -implicitDefEqProofs only [go_sem, Nat.reduceEqDiff, Nat.reduceAdd, Nat.reduceLT, Nat.reduceMul, Nat.reduceSub, Nat.reduceLeDiff, ↓reduceIte, reduceCtorEq, ↓String.reduceEq, String.reduceNe, Int.reduceToNat, Int.reduceLT, Int.reduceLE, Int.reduceGT, Int.reduceGE, Int.reduceEq, Int.reduceNe, Int.reduceBEq, Int.reduceBNe, Int.reduceAdd, Int.reduceSub, Int.reduceMul, Int.reduceNeg,  *]))
          exact Again.intro rfl)
      · rintro ts m' rfl
        repeat' (first | exact tf0 ‹_› | exact tf1 ‹_› | exact False.elim ‹_› | (with_reducible refine Al.intro ?_; intro pb hpb; (try simp only [hupd_none'] at hpb); (repeat rcases hpb with ⟨⟨hpx, hpy⟩, hpb⟩)) | with_reducible refine need ?_ | ((with_reducible first | apply frk0 | apply frk1 | apply frk2 | apply frk3 | apply frk4 | apply frk5 | apply frk6 | apply frk7 | apply frk8 | apply frk9) <;> intro h <;> try (exfalso; omega)) | with_reducible refine quiet_and ?_ ?_ | with_reducible refine awp_drawnA mixed (by decide +kernel) ?_ | ((fail_if_success with_reducible refine stp ?_); simp -implicitDefEqProofs only [go_sem, Nat.reduceEqDiff, Nat.reduceAdd, Nat.reduceLT, Nat.reduceMul, Nat.reduceSub, Nat.reduceLeDiff, ↓reduceIte, reduceCtorEq, ↓String.reduceEq, String.reduceNe, Int.reduceToNat, Int.reduceLT, Int.reduceLE, Int.reduceGT, Int.reduceGE, Int.reduceEq, Int.reduceNe, Int.reduceBEq, Int.reduceBNe, Int.reduceAdd, Int.reduceSub, Int.reduceMul, Int.reduceNeg,  *]))
        exact ⟨_, Sub.refl _, HK.out⟩)
  · obtain ⟨b1, o1, c1, rfl⟩ : ∃ b o cap, v1 = .slice b o L cap := s1.resolve_left fun h => h0 h.2
    obtain ⟨b2, o2, c2, rfl⟩ : ∃ b o cap, v2 = .slice b o L cap := s2.resolve_left fun h => h0 h.2
    obtain ⟨pr1, po1, N1, rfl, -, r1, -, -⟩ := slm_slice HA.out
    obtain ⟨pr2, po2, N2, rfl, -, r2, -, -⟩ := slm_slice HB.out
    clear s1 s2 h0
    refine callWP_body Tryz.func36 rfl (N := 26) rfl (rs := [.tmp 4]) rfl en_36 (of_decide_eq_true rfl) ?_
    repeat' (first | exact tf0 ‹_› | exact tf1 ‹_› | exact False.elim ‹_› | (with_reducible refine Al.intro ?_; intro pb hpb; (try simp only [hupd_none'] at hpb); (repeat rcases hpb with ⟨⟨hpx, hpy⟩, hpb⟩)) | with_reducible refine need ?_ | ((with_reducible first | apply frk0 | apply frk1 | apply frk2 | apply frk3 | apply frk4 | apply frk5 | apply frk6 | apply frk7 | apply frk8 | apply frk9) <;> intro h <;> try (exfalso; omega)) | with_reducible refine quiet_and ?_ ?_ | with_reducible refine awp_drawnA mixed (by decide +kernel) ?_ | ((fail_if_success with_reducible refine stp ?_); simp -implicitDefEqProofs only [go_sem, Nat.reduceEqDiff, Nat.reduceAdd, Nat.reduceLT, Nat.reduceMul, Nat.reduceSub, Nat.reduceLeDiff, ↓reduceIte, reduceCtorEq, ↓String.reduceEq, String.reduceNe, Int.reduceToNat, Int.reduceLT, Int.reduceLE, Int.reduceGT, Int.reduceGE, Int.reduceEq, Int.reduceNe, Int.reduceBEq, Int.reduceBNe, Int.reduceAdd, Int.reduceSub, Int.reduceMul, Int.reduceNeg,  *]))
    refine awp_loopP 0 (fun ts m' => m' = m) (fun k ts m' => ∃ i : Nat, Hid (k = L - i ∧ i ≤ L) ∧ ts 0 = .slice b1 pr1.length L c1 ∧ ts 1 = .slice b2 pr2.length L c2 ∧ ts 5 = .int .i64 (i : Nat) ∧ m' = m) L ⟨0, .mk ⟨rfl, Nat.zero_le _⟩, ttt, ttt, ttt, rfl⟩ ?_ ?_
    · rintro k ts m2 ⟨i, H, t0, t1, t5, hm2⟩
      subst m2
      by_cases hi : i < L
      · have lt : (i : Int) < (L : Int) := by omega
        have hiC : i < C.length := by have := H0.out; omega
        obtain ⟨x, hx⟩ : ∃ x, C.getD i default = x := ⟨_, rfl⟩
        obtain ⟨g1, l1⟩ := n_at C pr1 po1 i hiC x hx
        obtain ⟨g2, l2⟩ := n_at C pr2 po2 i hiC x hx
        have w1 : IntKind.i64.wrap ((i : Int) + 1) = ((i + 1 : Nat) : Int) := by rw [wrap_i64 (by omega) (by omega)]; omega
        clear hx hiC
        repeat' (first | exact tf0 ‹_› | exact tf1 ‹_› | exact False.elim ‹_› | (with_reducible refine Al.intro ?_; intro pb hpb; (try simp only [hupd_none'] at hpb); (repeat rcases hpb with ⟨⟨hpx, hpy⟩, hpb⟩)) | with_reducible refine need ?_ | ((with_reducible first | apply frk0 | apply frk1 | apply frk2 | apply frk3 | apply frk4 | apply frk5 | apply frk6 | apply frk7 | apply frk8 | apply frk9) <;> intro h <;> try (exfalso; omega)) | with_reducible refine quiet_and ?_ ?_ | with_reducible refine awp_drawnA mixed (by decide +kernel) ?_ | ((fail_if_success with_reducible refine stp ?_); simp -implicitDefEqProofs only [go_sem, Nat.reduceEqDiff, Nat.reduceAdd, Nat.reduceLT, Nat.reduceMul, Nat.reduceSub, Nat.reduceLeDiff, ↓reduceIte, reduceCtorEq, ↓String.reduceEq, String.reduceNe, Int.reduceToNat, Int.reduceLT, Int.reduceLE, Int.reduceGT, Int.reduceGE, Int.reduceEq, Int.reduceNe, Int.reduceBEq, Int.reduceBNe, Int.reduceAdd, Int.reduceSub, Int.reduceMul, Int.reduceNeg,  *]))
        exact Again.intro ⟨L - (i + 1), by have := H.out; omega, _, Sub.refl _, i + 1, .mk ⟨rfl, by omega⟩, (by first | (simp only [upd, put, Nat.reduceEqDiff, ↓reduceIte, t0]; done) | (simp [upd, put, t0]; done) | rfl | (simp [upd, put, t0]; rfl)), (by first | (simp only [upd, put, Nat.reduceEqDiff, ↓reduceIte, t1]; done) | (simp [upd, put, t1]; done) | rfl | (simp [upd, put, t1]; rfl)), ttt, rfl⟩
      · have lt : ¬ (i : Int) < (L : Int) := by omega
        repeat' (first | exact tf0 ‹_› | exact tf1 ‹_› | exact False.elim ‹_› | (with_reducible refine Al.intro ?_; intro pb hpb; (try simp only [hupd_none'] at hpb); (repeat rcases hpb with ⟨⟨hpx, hpy⟩, hpb⟩)) | with_reducible refine need ?_ | ((with_reducible first | apply frk0 | apply frk1 | apply frk2 | apply frk3 | apply frk4 | apply frk5 | apply frk6 | apply frk7 | apply frk8 | apply frk9) <;> intro h <;> try (exfalso; omega)) | with_reducible refine quiet_and ?_ ?_ | with_reducible refine awp_drawnA mixed (by decide +kernel) ?_ | ((fail_if_success with_reducible refine stp ?_); simp -implicitDefEqProofs only [go_sem, Nat.reduceEqDiff, Nat.reduceAdd, Nat.reduceLT, Nat.reduceMul, Nat.reduceSub, Nat.reduceLeDiff, ↓reduceIte, reduceCtorEq, ↓String.reduceEq, String.reduceNe, Int.reduceToNat, Int.reduceLT, Int.reduceLE, Int.reduceGT, Int.reduceGE, Int.reduceEq, Int.reduceNe, Int.reduceBEq, Int.reduceBNe, Int.reduceAdd, Int.reduceSub, Int.reduceMul, Int.reduceNeg,  *]))
        exact Again.intro rfl
    · rintro ts m2 hm2
      subst m2
      repeat' (first | exact tf0 ‹_› | exact tf1 ‹_› | exact False.elim ‹_› | (with_reducible refine Al.intro ?_; intro pb hpb; (try simp only [hupd_none'] at hpb); (repeat rcases hpb with ⟨⟨hpx, hpy⟩, hpb⟩)) | with_reducible refine need ?_ | ((with_reducible first | apply frk0 | apply frk1 | apply frk2 | apply frk3 | apply frk4 | apply frk5 | apply frk6 | apply frk7 | apply frk8 | apply frk9) <;> intro h <;> try (exfalso; omega)) | with_reducible refine quiet_and ?_ ?_ | with_reducible refine awp_drawnA mixed (by decide +kernel) ?_ | ((fail_if_success with_reducible refine stp ?_); simp -implicitDefEqProofs only [go_sem, Nat.reduceEqDiff, Nat.reduceAdd, Nat.reduceLT, Nat.reduceMul, Nat.reduceSub, Nat.reduceLeDiff, ↓reduceIte, reduceCtorEq, ↓String.reduceEq, String.reduceNe, Int.reduceToNat, Int.reduceLT, Int.reduceLE, Int.reduceGT, Int.reduceGE, Int.reduceEq, Int.reduceNe, Int.reduceBEq, Int.reduceBNe, Int.reduceAdd, Int.reduceSub, Int.reduceMul, Int.reduceNeg,  *]))
      exact ⟨_, Sub.refl _, HK.out⟩
theorem encN_flat (C : List Int) : (C.flatMap encN).all AVal.flat = true := by
  induction C with
  | nil => rfl
  | cons s t ih => rw [List.flatMap_cons, List.all_append, ih]; rfl
set_option maxHeartbeats 8000000 in
theorem rtopen_spec (G : Nat → AVal) (R : Rtb) (C : List Stm) (L : List Ntd) (hL : L.length ≤ 100000) (m : Heap) (hr : RRep R C L m) (K : AVal → Heap → Prop)
    (hK : ∀ v' m', SlM encN 1 (srtI (opensL L)) v' m' → Sub m m' → (∀ c, bOf v' = some c → m c = none) → K v' m') : CallWP Tryz.prog G 37 [.ptr R.p 0] m K := by
  obtain ⟨p, vs, vl⟩ := R
  have HK := Hid.mk hK
  obtain ⟨n, hn⟩ : ∃ n, n = L.length := ⟨_, rfl⟩
  have H0 := Hid.mk hn
  have ktb := hr.tab
  simp only at ktb
  obtain ⟨b, pre, post, N, cap, hw⟩ := nt_ways hr.lst hn
  simp only at hw
  have lL : n ≤ 100000 := by omega
  clear hr hn hL hK
  rcases hw with ⟨hv, hz⟩ | ⟨hv, hb⟩
  · subst hv
    subst hz
    have hLe : L = [] := List.length_eq_zero_iff.1 H0.out.symm
    subst hLe
    refine callWP_body Tryz.func37 rfl (N := 73) rfl (rs := [.tmp 2]) rfl en_37 (of_decide_eq_true rfl) ?_
    repeat' (first | exact tf0 ‹_› | exact tf1 ‹_› | exact False.elim ‹_› | (with_reducible refine Al.intro ?_; intro pb hpb; (try simp only [hupd_none'] at hpb); (repeat rcases hpb with ⟨⟨hpx, hpy⟩, hpb⟩)) | with_reducible refine need ?_ | ((with_reducible first | apply frk0 | apply frk1 | apply frk2 | apply frk3 | apply frk4 | apply frk5 | apply frk6 | apply frk7 | apply frk8 | apply frk9) <;> intro h <;> try (exfalso; omega)) | with_reducible refine quiet_and ?_ ?_ | with_reducible refine awp_drawnA mixed (by decide +kernel) ?_ | ((fail_if_success with_reducible refine stp ?_); simp -implicitDefEqProofs only [go_sem, Nat.reduceEqDiff, Nat.reduceAdd, Nat.reduceLT, Nat.reduceMul, Nat.reduceSub, Nat.reduceLeDiff, ↓reduceIte, reduceCtorEq, ↓String.reduceEq, String.reduceNe, Int.reduceToNat, Int.reduceLT, Int.reduceLE, Int.reduceGT, Int.reduceGE, Int.reduceEq, Int.reduceNe, Int.reduceBEq, Int.reduceBNe, Int.reduceAdd, Int.reduceSub, Int.reduceMul, Int.reduceNeg,  *]))
    refine awp_loopP 0 (fun ts m' => ts 3 = .nils ∧ m' = m) (fun k ts m' => k = 0 ∧ ts 0 = .ptr p 0 ∧ ts 3 = .nils ∧ ts 4 = .int .i64 0 ∧ m' = m) 0 ⟨rfl, ttt, ttt, ttt, rfl⟩ ?_ ?_
    · rintro k ts m2 ⟨hk, t0, t3, t4, hm2⟩
      subst m2
      repeat' (first | exact tf0 ‹_› | exact tf1 ‹_› | exact False.elim ‹_› | (with_reducible refine Al.intro ?_; intro pb hpb; (try simp only [hupd_none'] at hpb); (repeat rcases hpb with ⟨⟨hpx, hpy⟩, hpb⟩)) | with_reducible refine need ?_ | ((with_reducible first | apply frk0 | apply frk1 | apply frk2 | apply frk3 | apply frk4 | apply frk5 | apply frk6 | apply frk7 | apply frk8 | apply frk9) <;> intro h <;> try (exfalso; omega)) | with_reducible refine quiet_and ?_ ?_ | with_reducible refine awp_drawnA mixed (by decide +kernel) ?_ | ((fail_if_success with_reducible refine stp ?_); simp -implicitDefEqProofs only [go_sem, Nat.reduceEqDiff, Nat.reduceAdd, Nat.reduceLT, Nat.reduceMul, Nat.reduceSub, Nat.reduceLeDiff, ↓reduceIte, reduceCtorEq, ↓String.reduceEq, String.reduceNe, Int.reduceToNat, Int.reduceLT, Int.reduceLE, Int.reduceGT, Int.reduceGE, Int.reduceEq, Int.reduceNe, Int.reduceBEq, Int.reduceBNe, Int.reduceAdd, Int.reduceSub, Int.reduceMul, Int.reduceNeg,  *]))
      exact Again.intro ⟨(by first | (simp only [upd, put, Nat.reduceEqDiff, ↓reduceIte, t3]; done) | (simp [upd, put, t3]; done) | rfl | (simp [upd, put, t3]; rfl)), rfl⟩
    · rintro ts m2 ⟨t3, hm2⟩
      subst m2
      repeat' (first | exact tf0 ‹_› | exact tf1 ‹_› | exact False.elim ‹_› | (with_reducible refine Al.intro ?_; intro pb hpb; (try simp only [hupd_none'] at hpb); (repeat rcases hpb with ⟨⟨hpx, hpy⟩, hpb⟩)) | with_reducible refine need ?_ | ((with_reducible first | apply frk0 | apply frk1 | apply frk2 | apply frk3 | apply frk4 | apply frk5 | apply frk6 | apply frk7 | apply frk8 | apply frk9) <;> intro h <;> try (exfalso; omega)) | with_reducible refine quiet_and ?_ ?_ | with_reducible refine awp_drawnA mixed (by decide +kernel) ?_ | ((fail_if_success with_reducible refine stp ?_); simp -implicitDefEqProofs only [go_sem, Nat.reduceEqDiff, Nat.reduceAdd, Nat.reduceLT, Nat.reduceMul, Nat.reduceSub, Nat.reduceLeDiff, ↓reduceIte, reduceCtorEq, ↓String.reduceEq, String.reduceNe, Int.reduceToNat, Int.reduceLT, Int.reduceLE, Int.reduceGT, Int.reduceGE, Int.reduceEq, Int.reduceNe, Int.reduceBEq, Int.reduceBNe, Int.reduceAdd, Int.reduceSub, Int.reduceMul, Int.reduceNeg,  *]))
      exact ⟨m, Sub.refl _, HK.out _ _ (.inl ⟨rfl, by simp [srtI, opensL]⟩) (Sub.refl _) (fun c hc => by cases hc)⟩
  · subst hv
    refine callWP_body Tryz.func37 rfl (N := 73) rfl (rs := [.tmp 2]) rfl en_37 (of_decide_eq_true rfl) ?_
    repeat' (first | exact tf0 ‹_› | exact tf1 ‹_› | exact False.elim ‹_› | (with_reducible refine Al.intro ?_; intro pb hpb; (try simp only [hupd_none'] at hpb); (repeat rcases hpb with ⟨⟨hpx, hpy⟩, hpb⟩)) | with_reducible refine need ?_ | ((with_reducible first | apply frk0 | apply frk1 | apply frk2 | apply frk3 | apply frk4 | apply frk5 | apply frk6 | apply frk7 | apply frk8 | apply frk9) <;> intro h <;> try (exfalso; omega)) | with_reducible refine quiet_and ?_ ?_ | with_reducible refine awp_drawnA mixed (by decide +kernel) ?_ | ((fail_if_success with_reducible refine stp ?_); simp -implicitDefEqProofs only [go_sem, Nat.reduceEqDiff, Nat.reduceAdd, Nat.reduceLT, Nat.reduceMul, Nat.reduceSub, Nat.reduceLeDiff, ↓reduceIte, reduceCtorEq, ↓String.reduceEq, String.reduceNe, Int.reduceToNat, Int.reduceLT, Int.reduceLE, Int.reduceGT, Int.reduceGE, Int.reduceEq, Int.reduceNe, Int.reduceBEq, Int.reduceBNe, Int.reduceAdd, Int.reduceSub, Int.reduceMul, Int.reduceNeg,  *]))
    refine awp_loopP 0 (fun ts m' => ∃ w, ts 3 = w ∧ Hid (SlM encN 1 (srtI (opensL L)) w m' ∧ Sub m m' ∧ ∀ c, bOf w = some c → m c = none))
      (fun k ts m' => ∃ (i : Nat) (w : AVal), Hid (k = n - i ∧ i ≤ n ∧ SlM encN 1 (srtI (opensL (L.take i))) w m' ∧ Sub m m' ∧ (∀ c, bOf w = some c → m c = none) ∧ (opensL (L.take i)).length ≤ i) ∧ ts 0 = .ptr p 0 ∧ ts 3 = w ∧ ts 4 = .int .i64 (i : Nat)) n
      ⟨0, .nils, .mk ⟨rfl, Nat.zero_le _, .inl ⟨rfl, by simp [srtI, opensL]⟩, Sub.refl _, (fun c hc => by cases hc), Nat.le_refl _⟩, ttt, ttt, ttt⟩ ?_ ?_
    · rintro k ts m2 ⟨i, w, H, t0, t3, t4⟩
      have kp2 := H.out.2.2.2.1 _ _ ktb
      have kb2 := H.out.2.2.2.1 _ _ hb
      by_cases hi : i < n
      · have lt : (i : Int) < (n : Int) := by omega
        have hiC : i < L.length := by have := H0.out; omega
        obtain ⟨x, hx⟩ : ∃ x, L.getD i default = x := ⟨_, rfl⟩
        have g1 := nt_cell L pre post i hiC x hx 0 (by decide)
        rw [Nat.add_zero, show (encNt x).getD 0 .undef = .int .i64 x.1 from rfl] at g1
        have g2 := nt_cell L pre post i hiC x hx 5 (by decide)
        rw [show (encNt x).getD 5 .undef = .int .i64 x.2.2.1 from rfl] at g2
        have l1 := nt_len L pre post i hiC
        have w1 : IntKind.i64.wrap ((i : Int) + 1) = ((i + 1 : Nat) : Int) := by rw [wrap_i64 (by omega) (by omega)]; omega
        have hCt : L.take (i + 1) = L.take i ++ [x] := by rw [← hx, List.take_add_one]; simp [List.getD_eq_getElem?_getD, hiC]
        have hop : opensL (L.take (i + 1)) = opensL (L.take i) ++ (if x.2.2.1 = 0 then [x.1] else []) := by rw [hCt, opens_add]
        have HX := Hid.mk hop
        clear hx hiC hCt hop
        by_cases hf : x.2.2.1 = 0
        · have hfb : (x.2.2.1 != 0) = false := by simpa using hf
          have HO := Hid.mk (HX.out.trans (by rw [if_pos hf] : _ = opensL (L.take i) ++ [x.1]))
          clear hf
          have hsl := H.out.2.2.1
          have hlen : (srtI (opensL (L.take i))).length ≤ i := by have := (List.mergeSort_perm (opensL (L.take i)) fun x y => decide (x ≤ y)).length_eq; unfold srtI; rw [this]; exact H.out.2.2.2.2.2
          have hins := ins_srt (opensL (L.take i)) x.1
          rw [← HO.out] at hins
          obtain ⟨X, hX⟩ : ∃ X, srtI (opensL (L.take i)) = X := ⟨_, rfl⟩
          rw [hX] at hsl hlen hins
          obtain ⟨pl, hpl⟩ : ∃ pl, plc X x.1 = pl := ⟨_, rfl⟩
          have hp1 : pl ≤ X.length := by rw [← hpl]; exact plc_le X x.1
          have hp2 : ∀ j, j < pl → X.getD j default < x.1 := by rw [← hpl]; exact plc_lt X x.1
          have hp3 : pl < X.length → ¬ X.getD pl default < x.1 := by rw [← hpl]; exact plc_at X x.1
          rw [hpl] at hins
          have HI := Hid.mk (And.intro hins (And.intro hp1 (And.intro hp2 (And.intro hp3 (And.intro hsl hlen)))))
          have hsv := hsl.slv
          clear hX hpl hp1 hp2 hp3 hlen hins hsl HX
          rcases hsv with ⟨rfl, hXe⟩ | ⟨b5, o5, c5, rfl⟩
          · have hpz : pl = 0 := by have := HI.out.2.1; rw [hXe] at this; simpa using this
            subst hXe
            subst hpz
            repeat' (first | exact tf0 ‹_› | exact tf1 ‹_› | exact False.elim ‹_› | (with_reducible refine Al.intro ?_; intro pb hpb; (try simp only [hupd_none'] at hpb); (repeat rcases hpb with ⟨⟨hpx, hpy⟩, hpb⟩)) | with_reducible refine need ?_ | ((with_reducible first | apply frk0 | apply frk1 | apply frk2 | apply frk3 | apply frk4 | apply frk5 | apply frk6 | apply frk7 | apply frk8 | apply frk9) <;> intro h <;> try (exfalso; omega)) | with_reducible refine quiet_and ?_ ?_ | with_reducible refine awp_drawnA mixed (by decide +kernel) ?_ | ((fail_if_success with_reducible refine stp ?_); simp -implicitDefEqProofs only [go_sem, Nat.reduceEqDiff, Nat.reduceAdd, Nat.reduceLT, Nat.reduceMul, Nat.reduceSub, Nat.reduceLeDiff, ↓reduceIte, reduceCtorEq, ↓String.reduceEq, String.reduceNe, Int.reduceToNat, Int.reduceLT, Int.reduceLE, Int.reduceGT, Int.reduceGE, Int.reduceEq, Int.reduceNe, Int.reduceBEq, Int.reduceBNe, Int.reduceAdd, Int.reduceSub, Int.reduceMul, Int.reduceNeg,  *]))
            refine awp_loopP 2 (fun ts m' => ts 0 = .ptr p 0 ∧ ts 3 = .nils ∧ ts 4 = .int .i64 (i : Nat) ∧ ts 5 = .int .i64 0 ∧ m' = m2) (fun k ts m' => k = 0 ∧ ts 0 = .ptr p 0 ∧ ts 3 = .nils ∧ ts 4 = .int .i64 (i : Nat) ∧ ts 5 = .int .i64 0 ∧ m' = m2) 0 ⟨rfl, (by first | (simp only [upd, put, Nat.reduceEqDiff, ↓reduceIte, t0]; done) | (simp [upd, put, t0]; done) | rfl | (simp [upd, put, t0]; rfl)), (by first | (simp only [upd, put, Nat.reduceEqDiff, ↓reduceIte, t3]; done) | (simp [upd, put, t3]; done) | rfl | (simp [upd, put, t3]; rfl)), (by first | (simp only [upd, put, Nat.reduceEqDiff, ↓reduceIte, t4]; done) | (simp [upd, put, t4]; done) | rfl | (simp [upd, put, t4]; rfl)), ttt, rfl⟩ ?_ ?_
            · clear t0 t3 t4
              rintro k ts m3 ⟨hk, t0, t3, t4, t5, hm3⟩
              subst m3
              repeat' (first | exact tf0 ‹_› | exact tf1 ‹_› | exact False.elim ‹_› | (with_reducible refine Al.intro ?_; intro pb hpb; (try simp only [hupd_none'] at hpb); (repeat rcases hpb with ⟨⟨hpx, hpy⟩, hpb⟩)) | with_reducible refine need ?_ | ((with_reducible first | apply frk0 | apply frk1 | apply frk2 | apply frk3 | apply frk4 | apply frk5 | apply frk6 | apply frk7 | apply frk8 | apply frk9) <;> intro h <;> try (exfalso; omega)) | with_reducible refine quiet_and ?_ ?_ | with_reducible refine awp_drawnA mixed (by decide +kernel) ?_ | ((fail_if_success with_reducible refine stp ?_); simp -implicitDefEqProofs only [go_sem, Nat.reduceEqDiff, Nat.reduceAdd, Nat.reduceLT, Nat.reduceMul, Nat.reduceSub, Nat.reduceLeDiff, ↓reduceIte, reduceCtorEq, ↓String.reduceEq, String.reduceNe, Int.reduceToNat, Int.reduceLT, Int.reduceLE, Int.reduceGT, Int.reduceGE, Int.reduceEq, Int.reduceNe, Int.reduceBEq, Int.reduceBNe, Int.reduceAdd, Int.reduceSub, Int.reduceMul, Int.reduceNeg,  *]))
              exact Again.intro ⟨(by first | (simp only [upd, put, Nat.reduceEqDiff, ↓reduceIte, t0]; done) | (simp [upd, put, t0]; done) | rfl | (simp [upd, put, t0]; rfl)), (by first | (simp only [upd, put, Nat.reduceEqDiff, ↓reduceIte, t3]; done) | (simp [upd, put, t3]; done) | rfl | (simp [upd, put, t3]; rfl)), (by first | (simp only [upd, put, Nat.reduceEqDiff, ↓reduceIte, t4]; done) | (simp [upd, put, t4]; done) | rfl | (simp [upd, put, t4]; rfl)), (by first | (simp only [upd, put, Nat.reduceEqDiff, ↓reduceIte, t5]; done) | (simp [upd, put, t5]; done) | rfl | (simp [upd, put, t5]; rfl)), rfl⟩
            · clear t0 t3 t4
              rintro ts m3 ⟨t0, t3, t4, t5, hm3⟩
              subst m3
              repeat' (first | exact tf0 ‹_› | exact tf1 ‹_› | exact False.elim ‹_› | (with_reducible refine Al.intro ?_; intro pb hpb; (try simp only [hupd_none'] at hpb); (repeat rcases hpb with ⟨⟨hpx, hpy⟩, hpb⟩)) | with_reducible refine need ?_ | ((with_reducible first | apply frk0 | apply frk1 | apply frk2 | apply frk3 | apply frk4 | apply frk5 | apply frk6 | apply frk7 | apply frk8 | apply frk9) <;> intro h <;> try (exfalso; omega)) | with_reducible refine quiet_and ?_ ?_ | with_reducible refine awp_drawnA mixed (by decide +kernel) ?_ | ((fail_if_success with_reducible refine stp ?_); simp -implicitDefEqProofs only [go_sem, Nat.reduceEqDiff, Nat.reduceAdd, Nat.reduceLT, Nat.reduceMul, Nat.reduceSub, Nat.reduceLeDiff, ↓reduceIte, reduceCtorEq, ↓String.reduceEq, String.reduceNe, Int.reduceToNat, Int.reduceLT, Int.reduceLE, Int.reduceGT, Int.reduceGE, Int.reduceEq, Int.reduceNe, Int.reduceBEq, Int.reduceBNe, Int.reduceAdd, Int.reduceSub, Int.reduceMul, Int.reduceNeg,  *]))
              refine appV (enc := encN) (sz := 1) (C := []) (E := []) Tryz.underlying69 tk_3 eb_3 zl_3 (by decide) (by rw [Tryz.underlying69]; rfl) (by unfold isInt; rw [Tryz.underlying69]) encN_len (encN_flat _) (.inl ⟨rfl, rfl⟩) (.inl ⟨rfl, rfl⟩) (by have := HI.out.2.1; have := HI.out.2.2.2.2.2; simp only [List.length_take, List.length_nil]; omega) (fun v1 m3 h1 h2 => ?_)
              rw [List.nil_append] at h1
              have HA := Hid.mk (And.intro h1 h2)
              have hsv1 := h1.slv
              clear h1 h2
              rcases hsv1 with ⟨rfl, -⟩ | ⟨b1, o1, c1, rfl⟩
              all_goals (
                have kp3 : m3 p = some (.cells [vs, .slice b pre.length n cap] 2) := by rw [HA.out.2.1 p (by simp [bOf]) (by rw [kp2]; simp)]; exact kp2
                have kb3 : m3 b = some (.cells (pre ++ (L.flatMap encNt ++ post)) N) := by rw [HA.out.2.1 b (by simp [bOf]) (by rw [kb2]; simp)]; exact kb2
                have frp3 : ∀ c, m3 c = none → (p = c) = False := fun c h => by rw [eq_iff_iff, iff_false]; exact seenB kp3 h
                have frb3 : ∀ c, m3 c = none → (b = c) = False := fun c h => by rw [eq_iff_iff, iff_false]; exact seenB kb3 h
                repeat' (first | exact tf0 ‹_› | exact tf1 ‹_› | exact False.elim ‹_› | (with_reducible refine Al.intro ?_; intro pb hpb; (try simp only [hupd_none'] at hpb); (repeat rcases hpb with ⟨⟨hpx, hpy⟩, hpb⟩)) | with_reducible refine need ?_ | ((with_reducible first | apply frk0 | apply frk1 | apply frk2 | apply frk3 | apply frk4 | apply frk5 | apply frk6 | apply frk7 | apply frk8 | apply frk9) <;> intro h <;> try (exfalso; omega)) | with_reducible refine quiet_and ?_ ?_ | with_reducible refine awp_drawnA mixed (by decide +kernel) ?_ | ((fail_if_success with_reducible refine stp ?_); simp -implicitDefEqProofs only [go_sem, Nat.reduceEqDiff, Nat.reduceAdd, Nat.reduceLT, Nat.reduceMul, Nat.reduceSub, Nat.reduceLeDiff, ↓reduceIte, reduceCtorEq, ↓String.reduceEq, String.reduceNe, Int.reduceToNat, Int.reduceLT, Int.reduceLE, Int.reduceGT, Int.reduceGE, Int.reduceEq, Int.reduceNe, Int.reduceBEq, Int.reduceBNe, Int.reduceAdd, Int.reduceSub, Int.reduceMul, Int.reduceNeg,  *]))
                refine app1 (enc := encN) (sz := 1) (C := []) (x := x.1) Tryz.underlying69 tk_3 eb_3 zl_3 (by decide) (by rw [Tryz.underlying69]; rfl) (by unfold isInt; rw [Tryz.underlying69]) encN_len rfl ⟨_, by rw [hupd_at, if_pos rfl]⟩ (HA.out.1.fresh hpb) (by have := HI.out.2.1; have := HI.out.2.2.2.2.2; simp only [List.length_take, List.length_nil]; omega) (fun v2 m4 h1 h2 => ?_)
                obtain ⟨b2, o2, n2, c2, hv2⟩ : ∃ b o n c, v2 = .slice b o n c := by
                  rcases h1.slv with ⟨_, h⟩ | ⟨b, o, c, h⟩
                  · simp at h
                  · exact ⟨_, _, _, _, h⟩
                subst hv2
                have HB2 := Hid.mk (And.intro h1 h2)
                have HP2 := Hid.mk hpb
                clear h1 h2 kp3 kb3 frp3 frb3
                repeat' (first | exact tf0 ‹_› | exact tf1 ‹_› | exact False.elim ‹_› | (with_reducible refine Al.intro ?_; intro pb hpb; (try simp only [hupd_none'] at hpb); (repeat rcases hpb with ⟨⟨hpx, hpy⟩, hpb⟩)) | with_reducible refine need ?_ | ((with_reducible first | apply frk0 | apply frk1 | apply frk2 | apply frk3 | apply frk4 | apply frk5 | apply frk6 | apply frk7 | apply frk8 | apply frk9) <;> intro h <;> try (exfalso; omega)) | with_reducible refine quiet_and ?_ ?_ | with_reducible refine awp_drawnA mixed (by decide +kernel) ?_ | ((fail_if_success with_reducible refine stp ?_); simp -implicitDefEqProofs only [go_sem, Nat.reduceEqDiff, Nat.reduceAdd, Nat.reduceLT, Nat.reduceMul, Nat.reduceSub, Nat.reduceLeDiff, ↓reduceIte, reduceCtorEq, ↓String.reduceEq, String.reduceNe, Int.reduceToNat, Int.reduceLT, Int.reduceLE, Int.reduceGT, Int.reduceGE, Int.reduceEq, Int.reduceNe, Int.reduceBEq, Int.reduceBNe, Int.reduceAdd, Int.reduceSub, Int.reduceMul, Int.reduceNeg,  *]))
                obtain ⟨a1, a2⟩ := HA.out.2.sub (mb := m) H.out.2.2.2.1 (fun c hc => by cases hc)
                obtain ⟨a3, a4⟩ := HB2.out.2.sub (mb := m) (a1.fresh (a1.gone HP2.out)) a2
                have HM4 := Hid.mk (And.intro a3 a4)
                clear a1 a2 a3 a4
                skip
                refine appV (enc := encN) (sz := 1) (C := [] ++ [x.1]) (E := []) Tryz.underlying69 tk_3 eb_3 zl_3 (by decide) (by rw [Tryz.underlying69]; rfl) (by unfold isInt; rw [Tryz.underlying69]) encN_len (encN_flat _) (.inl ⟨rfl, rfl⟩) HB2.out.1 (by have := HI.out.2.1; have := HI.out.2.2.2.2.2; simp only [List.length_append, List.length_take, List.length_drop, List.length_cons, List.length_nil]; omega) (fun v3 m5 h1 h2 => ?_)
                obtain ⟨b3, o3, n3, c3, hv3⟩ : ∃ b o n c, v3 = .slice b o n c := by
                  rcases h1.slv with ⟨_, h⟩ | ⟨b, o, c, h⟩
                  · simp at h
                  · exact ⟨_, _, _, _, h⟩
                subst hv3
                obtain ⟨a3, a4⟩ := h2.sub (mb := m) HM4.out.1 HM4.out.2
                have HV3 := Hid.mk (And.intro h1 (And.intro a3 a4))
                clear h1 h2 a3 a4
                repeat' (first | exact tf0 ‹_› | exact tf1 ‹_› | exact False.elim ‹_› | (with_reducible refine Al.intro ?_; intro pb hpb; (try simp only [hupd_none'] at hpb); (repeat rcases hpb with ⟨⟨hpx, hpy⟩, hpb⟩)) | with_reducible refine need ?_ | ((with_reducible first | apply frk0 | apply frk1 | apply frk2 | apply frk3 | apply frk4 | apply frk5 | apply frk6 | apply frk7 | apply frk8 | apply frk9) <;> intro h <;> try (exfalso; omega)) | with_reducible refine quiet_and ?_ ?_ | with_reducible refine awp_drawnA mixed (by decide +kernel) ?_ | ((fail_if_success with_reducible refine stp ?_); simp -implicitDefEqProofs only [go_sem, Nat.reduceEqDiff, Nat.reduceAdd, Nat.reduceLT, Nat.reduceMul, Nat.reduceSub, Nat.reduceLeDiff, ↓reduceIte, reduceCtorEq, ↓String.reduceEq, String.reduceNe, Int.reduceToNat, Int.reduceLT, Int.reduceLE, Int.reduceGT, Int.reduceGE, Int.reduceEq, Int.reduceNe, Int.reduceBEq, Int.reduceBNe, Int.reduceAdd, Int.reduceSub, Int.reduceMul, Int.reduceNeg,  *]))
                refine Again.intro ⟨n - (i + 1), by have := H.out; omega, _, Sub.refl _, i + 1, _, .mk ⟨rfl, by omega, ?_, HV3.out.2.1, HV3.out.2.2, ?_⟩, (by first | (simp only [upd, put, Nat.reduceEqDiff, ↓reduceIte, t0]; done) | (simp [upd, put, t0]; done) | rfl | (simp [upd, put, t0]; rfl)), ttt, (by first | (simp only [upd, put, Nat.reduceEqDiff, ↓reduceIte, t4]; done) | (simp [upd, put, t4]; done) | rfl | (simp [upd, put, t4]; rfl))⟩
                · rw [HI.out.1]; have h := HV3.out.1; simp only [List.append_assoc] at h; exact h
                · rw [HO.out, List.length_append]; have := H.out.2.2.2.2.2; simp only [List.length_cons, List.length_nil]; omega)
          · obtain ⟨n5, hn5⟩ : ∃ n5, X.length = n5 := ⟨_, rfl⟩
            have HN5 := Hid.mk hn5
            have hsx := HI.out.2.2.2.2.1
            rw [hn5] at hsx t3
            obtain ⟨pre5, post5, N5, ho5, -, kx, -, hc5⟩ := slm_slice hsx
            subst ho5
            have hc5' : n5 ≤ c5 := by omega
            have hpl5 : pl ≤ n5 := by have := HI.out.2.1; omega
            have hn5i : n5 ≤ 100000 := by have := HI.out.2.2.2.2.2; omega
            have HSX := Hid.mk hsx
            clear hn5 hsx hc5
            repeat' (first | exact tf0 ‹_› | exact tf1 ‹_› | exact False.elim ‹_› | (with_reducible refine Al.intro ?_; intro pb hpb; (try simp only [hupd_none'] at hpb); (repeat rcases hpb with ⟨⟨hpx, hpy⟩, hpb⟩)) | with_reducible refine need ?_ | ((with_reducible first | apply frk0 | apply frk1 | apply frk2 | apply frk3 | apply frk4 | apply frk5 | apply frk6 | apply frk7 | apply frk8 | apply frk9) <;> intro h <;> try (exfalso; omega)) | with_reducible refine quiet_and ?_ ?_ | with_reducible refine awp_drawnA mixed (by decide +kernel) ?_ | ((fail_if_success with_reducible refine stp ?_); simp -implicitDefEqProofs only [go_sem, Nat.reduceEqDiff, Nat.reduceAdd, Nat.reduceLT, Nat.reduceMul, Nat.reduceSub, Nat.reduceLeDiff, ↓reduceIte, reduceCtorEq, ↓String.reduceEq, String.reduceNe, Int.reduceToNat, Int.reduceLT, Int.reduceLE, Int.reduceGT, Int.reduceGE, Int.reduceEq, Int.reduceNe, Int.reduceBEq, Int.reduceBNe, Int.reduceAdd, Int.reduceSub, Int.reduceMul, Int.reduceNeg,  *]))
            refine awp_loopP 2 (fun ts m' => ts 0 = .ptr p 0 ∧ ts 3 = .slice b5 pre5.length n5 c5 ∧ ts 4 = .int .i64 (i : Nat) ∧ ts 5 = .int .i64 (pl : Nat) ∧ m' = m2) (fun k ts m' => ∃ j : Nat, Hid (k = n5 - j ∧ j ≤ pl) ∧ ts 0 = .ptr p 0 ∧ ts 3 = .slice b5 pre5.length n5 c5 ∧ ts 4 = .int .i64 (i : Nat) ∧ ts 5 = .int .i64 (j : Nat) ∧ m' = m2) n5 ⟨0, .mk ⟨rfl, Nat.zero_le _⟩, (by first | (simp only [upd, put, Nat.reduceEqDiff, ↓reduceIte, t0]; done) | (simp [upd, put, t0]; done) | rfl | (simp [upd, put, t0]; rfl)), (by first | (simp only [upd, put, Nat.reduceEqDiff, ↓reduceIte, t3]; done) | (simp [upd, put, t3]; done) | rfl | (simp [upd, put, t3]; rfl)), (by first | (simp only [upd, put, Nat.reduceEqDiff, ↓reduceIte, t4]; done) | (simp [upd, put, t4]; done) | rfl | (simp [upd, put, t4]; rfl)), ttt, rfl⟩ ?_ ?_
            · clear t0 t3 t4
              rintro k ts m3 ⟨j, HJ, t0, t3, t4, t5, hm3⟩
              subst m3
              by_cases hj : j < n5
              · have ltj : (j : Int) < (n5 : Int) := by omega
                obtain ⟨y, hy⟩ : ∃ y, X.getD j default = y := ⟨_, rfl⟩
                obtain ⟨g3, l3⟩ := n_at X pre5 post5 j (by have := HN5.out; omega) y hy
                have w2 : IntKind.i64.wrap ((j : Int) + 1) = ((j + 1 : Nat) : Int) := by rw [wrap_i64 (by omega) (by omega)]; omega
                have HY := Hid.mk hy
                clear hy
                by_cases hq : y < x.1
                · have hjp : j < pl := by
                    rcases Nat.lt_or_ge j pl with h | h
                    · exact h
                    · have e : j = pl := by have := HJ.out; omega
                      exact absurd hq (by rw [← HY.out, e]; exact HI.out.2.2.2.1 (by have := HN5.out; omega))
                  repeat' (first | exact tf0 ‹_› | exact tf1 ‹_› | exact False.elim ‹_› | (with_reducible refine Al.intro ?_; intro pb hpb; (try simp only [hupd_none'] at hpb); (repeat rcases hpb with ⟨⟨hpx, hpy⟩, hpb⟩)) | with_reducible refine need ?_ | ((with_reducible first | apply frk0 | apply frk1 | apply frk2 | apply frk3 | apply frk4 | apply frk5 | apply frk6 | apply frk7 | apply frk8 | apply frk9) <;> intro h <;> try (exfalso; omega)) | with_reducible refine quiet_and ?_ ?_ | with_reducible refine awp_drawnA mixed (by decide +kernel) ?_ | ((fail_if_success with_reducible refine stp ?_); simp -implicitDefEqProofs only [go_sem, Nat.reduceEqDiff, Nat.reduceAdd, Nat.reduceLT, Nat.reduceMul, Nat.reduceSub, Nat.reduceLeDiff, ↓reduceIte, reduceCtorEq, ↓String.reduceEq, String.reduceNe, Int.reduceToNat, Int.reduceLT, Int.reduceLE, Int.reduceGT, Int.reduceGE, Int.reduceEq, Int.reduceNe, Int.reduceBEq, Int.reduceBNe, Int.reduceAdd, Int.reduceSub, Int.reduceMul, Int.reduceNeg,  *]))
                  exact Again.intro ⟨n5 - (j + 1), by have := HJ.out; omega, _, Sub.refl _, j + 1, .mk ⟨rfl, by omega⟩, (by first | (simp only [upd, put, Nat.reduceEqDiff, ↓reduceIte, t0]; done) | (simp [upd, put, t0]; done) | rfl | (simp [upd, put, t0]; rfl)), (by first | (simp only [upd, put, Nat.reduceEqDiff, ↓reduceIte, t3]; done) | (simp [upd, put, t3]; done) | rfl | (simp [upd, put, t3]; rfl)), (by first | (simp only [upd, put, Nat.reduceEqDiff, ↓reduceIte, t4]; done) | (simp [upd, put, t4]; done) | rfl | (simp [upd, put, t4]; rfl)), ttt, rfl⟩
                · have hjp : j = pl := by
                    rcases Nat.lt_or_ge j pl with h | h
                    · exact absurd (HI.out.2.2.1 j h) (by rw [HY.out]; exact hq)
                    · have := HJ.out; omega
                  subst hjp
                  repeat' (first | exact tf0 ‹_› | exact tf1 ‹_› | exact False.elim ‹_› | (with_reducible refine Al.intro ?_; intro pb hpb; (try simp only [hupd_none'] at hpb); (repeat rcases hpb with ⟨⟨hpx, hpy⟩, hpb⟩)) | with_reducible refine need ?_ | ((with_reducible first | apply frk0 | apply frk1 | apply frk2 | apply frk3 | apply frk4 | apply frk5 | apply frk6 | apply frk7 | apply frk8 | apply frk9) <;> intro h <;> try (exfalso; omega)) | with_reducible refine quiet_and ?_ ?_ | with_reducible refine awp_drawnA mixed (by decide +kernel) ?_ | ((fail_if_success with_reducible refine stp ?_); simp -implicitDefEqProofs only [go_sem, Nat.reduceEqDiff, Nat.reduceAdd, Nat.reduceLT, Nat.reduceMul, Nat.reduceSub, Nat.reduceLeDiff, ↓reduceIte, reduceCtorEq, ↓String.reduceEq, String.reduceNe, Int.reduceToNat, Int.reduceLT, Int.reduceLE, Int.reduceGT, Int.reduceGE, Int.reduceEq, Int.reduceNe, Int.reduceBEq, Int.reduceBNe, Int.reduceAdd, Int.reduceSub, Int.reduceMul, Int.reduceNeg,  *]))
                  exact Again.intro ⟨(by first | (simp only [upd, put, Nat.reduceEqDiff, ↓reduceIte, t0]; done) | (simp [upd, put, t0]; done) | rfl | (simp [upd, put, t0]; rfl)), (by first | (simp only [upd, put, Nat.reduceEqDiff, ↓reduceIte, t3]; done) | (simp [upd, put, t3]; done) | rfl | (simp [upd, put, t3]; rfl)), (by first | (simp only [upd, put, Nat.reduceEqDiff, ↓reduceIte, t4]; done) | (simp [upd, put, t4]; done) | rfl | (simp [upd, put, t4]; rfl)), (by first | (simp only [upd, put, Nat.reduceEqDiff, ↓reduceIte, t5]; done) | (simp [upd, put, t5]; done) | rfl | (simp [upd, put, t5]; rfl)), rfl⟩
              · have ltj : ¬ (j : Int) < (n5 : Int) := by omega
                have hjp : j = pl := by have := HJ.out; omega
                subst hjp
                repeat' (first | exact tf0 ‹_› | exact tf1 ‹_› | exact False.elim ‹_› | (with_reducible refine Al.intro ?_; intro pb hpb; (try simp only [hupd_none'] at hpb); (repeat rcases hpb with ⟨⟨hpx, hpy⟩, hpb⟩)) | with_reducible refine need ?_ | ((with_reducible first | apply frk0 | apply frk1 | apply frk2 | apply frk3 | apply frk4 | apply frk5 | apply frk6 | apply frk7 | apply frk8 | apply frk9) <;> intro h <;> try (exfalso; omega)) | with_reducible refine quiet_and ?_ ?_ | with_reducible refine awp_drawnA mixed (by decide +kernel) ?_ | ((fail_if_success with_reducible refine stp ?_); simp -implicitDefEqProofs only [go_sem, Nat.reduceEqDiff, Nat.reduceAdd, Nat.reduceLT, Nat.reduceMul, Nat.reduceSub, Nat.reduceLeDiff, ↓reduceIte, reduceCtorEq, ↓String.reduceEq, String.reduceNe, Int.reduceToNat, Int.reduceLT, Int.reduceLE, Int.reduceGT, Int.reduceGE, Int.reduceEq, Int.reduceNe, Int.reduceBEq, Int.reduceBNe, Int.reduceAdd, Int.reduceSub, Int.reduceMul, Int.reduceNeg,  *]))
                exact Again.intro ⟨(by first | (simp only [upd, put, Nat.reduceEqDiff, ↓reduceIte, t0]; done) | (simp [upd, put, t0]; done) | rfl | (simp [upd, put, t0]; rfl)), (by first | (simp only [upd, put, Nat.reduceEqDiff, ↓reduceIte, t3]; done) | (simp [upd, put, t3]; done) | rfl | (simp [upd, put, t3]; rfl)), (by first | (simp only [upd, put, Nat.reduceEqDiff, ↓reduceIte, t4]; done) | (simp [upd, put, t4]; done) | rfl | (simp [upd, put, t4]; rfl)), (by first | (simp only [upd, put, Nat.reduceEqDiff, ↓reduceIte, t5]; done) | (simp [upd, put, t5]; done) | rfl | (simp [upd, put, t5]; rfl)), rfl⟩
            · clear t0 t3 t4
              rintro ts m3 ⟨t0, t3, t4, t5, hm3⟩
              subst m3
              have hb1 : (pl : Int) ≤ (c5 : Int) := by omega
              have hb2 : (0 : Int) ≤ (pl : Int) := by omega
              have hb3 : (pl : Int) ≤ (n5 : Int) := by omega
              repeat' (first | exact tf0 ‹_› | exact tf1 ‹_› | exact False.elim ‹_› | (with_reducible refine Al.intro ?_; intro pb hpb; (try simp only [hupd_none'] at hpb); (repeat rcases hpb with ⟨⟨hpx, hpy⟩, hpb⟩)) | with_reducible refine need ?_ | ((with_reducible first | apply frk0 | apply frk1 | apply frk2 | apply frk3 | apply frk4 | apply frk5 | apply frk6 | apply frk7 | apply frk8 | apply frk9) <;> intro h <;> try (exfalso; omega)) | with_reducible refine quiet_and ?_ ?_ | with_reducible refine awp_drawnA mixed (by decide +kernel) ?_ | ((fail_if_success with_reducible refine stp ?_); simp -implicitDefEqProofs only [go_sem, Nat.reduceEqDiff, Nat.reduceAdd, Nat.reduceLT, Nat.reduceMul, Nat.reduceSub, Nat.reduceLeDiff, ↓reduceIte, reduceCtorEq, ↓String.reduceEq, String.reduceNe, Int.reduceToNat, Int.reduceLT, Int.reduceLE, Int.reduceGT, Int.reduceGE, Int.reduceEq, Int.reduceNe, Int.reduceBEq, Int.reduceBNe, Int.reduceAdd, Int.reduceSub, Int.reduceMul, Int.reduceNeg,  *]))
              rw [ite_self]
              refine appV (enc := encN) (sz := 1) (C := []) (E := X.take pl) Tryz.underlying69 tk_3 eb_3 zl_3 (by decide) (by rw [Tryz.underlying69]; rfl) (by unfold isInt; rw [Tryz.underlying69]) encN_len (encN_flat _) (slm_take encN_len HSX.out pl hpl5) (.inl ⟨rfl, rfl⟩) (by have := HI.out.2.1; have := HI.out.2.2.2.2.2; simp only [List.length_take, List.length_nil]; omega) (fun v1 m3 h1 h2 => ?_)
              rw [List.nil_append] at h1
              have HA := Hid.mk (And.intro h1 h2)
              have hsv1 := h1.slv
              clear h1 h2
              rcases hsv1 with ⟨rfl, -⟩ | ⟨b1, o1, c1, rfl⟩
              all_goals (
                have kp3 : m3 p = some (.cells [vs, .slice b pre.length n cap] 2) := by rw [HA.out.2.1 p (by simp [bOf]) (by rw [kp2]; simp)]; exact kp2
                have kb3 : m3 b = some (.cells (pre ++ (L.flatMap encNt ++ post)) N) := by rw [HA.out.2.1 b (by simp [bOf]) (by rw [kb2]; simp)]; exact kb2
                have frp3 : ∀ c, m3 c = none → (p = c) = False := fun c h => by rw [eq_iff_iff, iff_false]; exact seenB kp3 h
                have frb3 : ∀ c, m3 c = none → (b = c) = False := fun c h => by rw [eq_iff_iff, iff_false]; exact seenB kb3 h
                repeat' (first | exact tf0 ‹_› | exact tf1 ‹_› | exact False.elim ‹_› | (with_reducible refine Al.intro ?_; intro pb hpb; (try simp only [hupd_none'] at hpb); (repeat rcases hpb with ⟨⟨hpx, hpy⟩, hpb⟩)) | with_reducible refine need ?_ | ((with_reducible first | apply frk0 | apply frk1 | apply frk2 | apply frk3 | apply frk4 | apply frk5 | apply frk6 | apply frk7 | apply frk8 | apply frk9) <;> intro h <;> try (exfalso; omega)) | with_reducible refine quiet_and ?_ ?_ | with_reducible refine awp_drawnA mixed (by decide +kernel) ?_ | ((fail_if_success with_reducible refine stp ?_); simp -implicitDefEqProofs only [go_sem, Nat.reduceEqDiff, Nat.reduceAdd, Nat.reduceLT, Nat.reduceMul, Nat.reduceSub, Nat.reduceLeDiff, ↓reduceIte, reduceCtorEq, ↓String.reduceEq, String.reduceNe, Int.reduceToNat, Int.reduceLT, Int.reduceLE, Int.reduceGT, Int.reduceGE, Int.reduceEq, Int.reduceNe, Int.reduceBEq, Int.reduceBNe, Int.reduceAdd, Int.reduceSub, Int.reduceMul, Int.reduceNeg,  *]))
                refine app1 (enc := encN) (sz := 1) (C := X.take pl) (x := x.1) Tryz.underlying69 tk_3 eb_3 zl_3 (by decide) (by rw [Tryz.underlying69]; rfl) (by unfold isInt; rw [Tryz.underlying69]) encN_len rfl ⟨_, by rw [hupd_at, if_pos rfl]⟩ (HA.out.1.fresh hpb) (by have := HI.out.2.1; have := HI.out.2.2.2.2.2; simp only [List.length_take, List.length_nil]; omega) (fun v2 m4 h1 h2 => ?_)
                obtain ⟨b2, o2, n2, c2, hv2⟩ : ∃ b o n c, v2 = .slice b o n c := by
                  rcases h1.slv with ⟨_, h⟩ | ⟨b, o, c, h⟩
                  · simp at h
                  · exact ⟨_, _, _, _, h⟩
                subst hv2
                have HB2 := Hid.mk (And.intro h1 h2)
                have HP2 := Hid.mk hpb
                have kx2 : m3 b5 = m2 b5 := HA.out.2.1 b5 (by simp [bOf]) (by rw [kx]; simp)
                have kx3 : m4 b5 = m2 b5 := by
                  rw [h2.1 b5 (fun e => by have h := HA.out.2.2 b5 e; rcases h with h | h <;> simp [bOf, kx] at h) (by rw [hupd_ne (seenB (kx2.trans kx) hpb), kx2, kx]; simp), hupd_ne (seenB (kx2.trans kx) hpb), kx2]
                have HX4 : Hid (SlM encN 1 X (.slice b5 pre5.length n5 c5) m4) := .mk (HSX.out.keep (fun c hc => by simp only [bOf, Option.some.injEq] at hc; subst hc; exact kx3))
                clear h1 h2 kp3 kb3 frp3 frb3 kx2 kx3
                repeat' (first | exact tf0 ‹_› | exact tf1 ‹_› | exact False.elim ‹_› | (with_reducible refine Al.intro ?_; intro pb hpb; (try simp only [hupd_none'] at hpb); (repeat rcases hpb with ⟨⟨hpx, hpy⟩, hpb⟩)) | with_reducible refine need ?_ | ((with_reducible first | apply frk0 | apply frk1 | apply frk2 | apply frk3 | apply frk4 | apply frk5 | apply frk6 | apply frk7 | apply frk8 | apply frk9) <;> intro h <;> try (exfalso; omega)) | with_reducible refine quiet_and ?_ ?_ | with_reducible refine awp_drawnA mixed (by decide +kernel) ?_ | ((fail_if_success with_reducible refine stp ?_); simp -implicitDefEqProofs only [go_sem, Nat.reduceEqDiff, Nat.reduceAdd, Nat.reduceLT, Nat.reduceMul, Nat.reduceSub, Nat.reduceLeDiff, ↓reduceIte, reduceCtorEq, ↓String.reduceEq, String.reduceNe, Int.reduceToNat, Int.reduceLT, Int.reduceLE, Int.reduceGT, Int.reduceGE, Int.reduceEq, Int.reduceNe, Int.reduceBEq, Int.reduceBNe, Int.reduceAdd, Int.reduceSub, Int.reduceMul, Int.reduceNeg,  *]))
                obtain ⟨a1, a2⟩ := HA.out.2.sub (mb := m) H.out.2.2.2.1 (fun c hc => by cases hc)
                obtain ⟨a3, a4⟩ := HB2.out.2.sub (mb := m) (a1.fresh (a1.gone HP2.out)) a2
                have HM4 := Hid.mk (And.intro a3 a4)
                clear a1 a2 a3 a4
                have hdr := slm_drop encN_len HX4.out pl hpl5
                refine appV (enc := encN) (sz := 1) (C := X.take pl ++ [x.1]) (E := X.drop pl) Tryz.underlying69 tk_3 eb_3 zl_3 (by decide) (by rw [Tryz.underlying69]; rfl) (by unfold isInt; rw [Tryz.underlying69]) encN_len (encN_flat _) (by simp only [Int.natCast_inj]; simpa using hdr) HB2.out.1 (by have := HI.out.2.1; have := HI.out.2.2.2.2.2; simp only [List.length_append, List.length_take, List.length_drop, List.length_cons, List.length_nil]; omega) (fun v3 m5 h1 h2 => ?_)
                obtain ⟨b3, o3, n3, c3, hv3⟩ : ∃ b o n c, v3 = .slice b o n c := by
                  rcases h1.slv with ⟨_, h⟩ | ⟨b, o, c, h⟩
                  · simp at h
                  · exact ⟨_, _, _, _, h⟩
                subst hv3
                obtain ⟨a3, a4⟩ := h2.sub (mb := m) HM4.out.1 HM4.out.2
                have HV3 := Hid.mk (And.intro h1 (And.intro a3 a4))
                clear h1 h2 a3 a4
                repeat' (first | exact tf0 ‹_› | exact tf1 ‹_› | exact False.elim ‹_› | (with_reducible refine Al.intro ?_; intro pb hpb; (try simp only [hupd_none'] at hpb); (repeat rcases hpb with ⟨⟨hpx, hpy⟩, hpb⟩)) | with_reducible refine need ?_ | ((with_reducible first | apply frk0 | apply frk1 | apply frk2 | apply frk3 | apply frk4 | apply frk5 | apply frk6 | apply frk7 | apply frk8 | apply frk9) <;> intro h <;> try (exfalso; omega)) | with_reducible refine quiet_and ?_ ?_ | with_reducible refine awp_drawnA mixed (by decide +kernel) ?_ | ((fail_if_success with_reducible refine stp ?_); simp -implicitDefEqProofs only [go_sem, Nat.reduceEqDiff, Nat.reduceAdd, Nat.reduceLT, Nat.reduceMul, Nat.reduceSub, Nat.reduceLeDiff, ↓reduceIte, reduceCtorEq, ↓String.reduceEq, String.reduceNe, Int.reduceToNat, Int.reduceLT, Int.reduceLE, Int.reduceGT, Int.reduceGE, Int.reduceEq, Int.reduceNe, Int.reduceBEq, Int.reduceBNe, Int.reduceAdd, Int.reduceSub, Int.reduceMul, Int.reduceNeg,  *]))
                refine Again.intro ⟨n - (i + 1), by have := H.out; omega, _, Sub.refl _, i + 1, _, .mk ⟨rfl, by omega, ?_, HV3.out.2.1, HV3.out.2.2, ?_⟩, (by first | (simp only [upd, put, Nat.reduceEqDiff, ↓reduceIte, t0]; done) | (simp [upd, put, t0]; done) | rfl | (simp [upd, put, t0]; rfl)), ttt, (by first | (simp only [upd, put, Nat.reduceEqDiff, ↓reduceIte, t4]; done) | (simp [upd, put, t4]; done) | rfl | (simp [upd, put, t4]; rfl))⟩
                · rw [HI.out.1]; have h := HV3.out.1; simp only [List.append_assoc] at h; exact h
                · rw [HO.out, List.length_append]; have := H.out.2.2.2.2.2; simp only [List.length_cons, List.length_nil]; omega)
        · have hfb : (x.2.2.1 != 0) = true := by simpa using hf
          have HO := Hid.mk (HX.out.trans (by rw [if_neg hf, List.append_nil] : _ = opensL (L.take i)))
          clear hf HX
          repeat' (first | exact tf0 ‹_› | exact tf1 ‹_› | exact False.elim ‹_› | (with_reducible refine Al.intro ?_; intro pb hpb; (try simp only [hupd_none'] at hpb); (repeat rcases hpb with ⟨⟨hpx, hpy⟩, hpb⟩)) | with_reducible refine need ?_ | ((with_reducible first | apply frk0 | apply frk1 | apply frk2 | apply frk3 | apply frk4 | apply frk5 | apply frk6 | apply frk7 | apply frk8 | apply frk9) <;> intro h <;> try (exfalso; omega)) | with_reducible refine quiet_and ?_ ?_ | with_reducible refine awp_drawnA mixed (by decide +kernel) ?_ | ((fail_if_success with_reducible refine stp ?_); simp -implicitDefEqProofs only [go_sem, Nat.reduceEqDiff, Nat.reduceAdd, Nat.reduceLT, Nat.reduceMul, Nat.reduceSub, Nat.reduceLeDiff, ↓reduceIte, reduceCtorEq, ↓String.reduceEq, String.reduceNe, Int.reduceToNat, Int.reduceLT, Int.reduceLE, Int.reduceGT, Int.reduceGE, Int.reduceEq, Int.reduceNe, Int.reduceBEq, Int.reduceBNe, Int.reduceAdd, Int.reduceSub, Int.reduceMul, Int.reduceNeg,  *]))
          exact Again.intro ⟨n - (i + 1), by have := H.out; omega, _, Sub.refl _, i + 1, w, .mk ⟨rfl, by omega, by rw [HO.out]; exact H.out.2.2.1, H.out.2.2.2.1, H.out.2.2.2.2.1, by rw [HO.out]; have := H.out.2.2.2.2.2; omega⟩, (by first | (simp only [upd, put, Nat.reduceEqDiff, ↓reduceIte, t0]; done) | (simp [upd, put, t0]; done) | rfl | (simp [upd, put, t0]; rfl)), (by first | (simp only [upd, put, Nat.reduceEqDiff, ↓reduceIte, t3]; done) | (simp [upd, put, t3]; done) | rfl | (simp [upd, put, t3]; rfl)), ttt⟩
      · have lt : ¬ (i : Int) < (n : Int) := by omega
        have HT := Hid.mk (show L.take i = L from List.take_of_length_le (by have := H0.out; omega))
        repeat' (first | exact tf0 ‹_› | exact tf1 ‹_› | exact False.elim ‹_› | (with_reducible refine Al.intro ?_; intro pb hpb; (try simp only [hupd_none'] at hpb); (repeat rcases hpb with ⟨⟨hpx, hpy⟩, hpb⟩)) | with_reducible refine need ?_ | ((with_reducible first | apply frk0 | apply frk1 | apply frk2 | apply frk3 | apply frk4 | apply frk5 | apply frk6 | apply frk7 | apply frk8 | apply frk9) <;> intro h <;> try (exfalso; omega)) | with_reducible refine quiet_and ?_ ?_ | with_reducible refine awp_drawnA mixed (by decide +kernel) ?_ | ((fail_if_success with_reducible refine stp ?_); simp -implicitDefEqProofs only [go_sem, Nat.reduceEqDiff, Nat.reduceAdd, Nat.reduceLT, Nat.reduceMul, Nat.reduceSub, Nat.reduceLeDiff, ↓reduceIte, reduceCtorEq, ↓String.reduceEq, String.reduceNe, Int.reduceToNat, Int.reduceLT, Int.reduceLE, Int.reduceGT, Int.reduceGE, Int.reduceEq, Int.reduceNe, Int.reduceBEq, Int.reduceBNe, Int.reduceAdd, Int.reduceSub, Int.reduceMul, Int.reduceNeg,  *]))
        exact Again.intro ⟨w, (by first | (simp only [upd, put, Nat.reduceEqDiff, ↓reduceIte, t3]; done) | (simp [upd, put, t3]; done) | rfl | (simp [upd, put, t3]; rfl)), .mk ⟨by have := H.out.2.2.1; rw [HT.out] at this; exact this, H.out.2.2.2.1, H.out.2.2.2.2.1⟩⟩
    · rintro ts m2 ⟨w, t3, H⟩
      have HW := Hid.mk (HK.out w m2 H.out.1 H.out.2.1 H.out.2.2)
      have hsv := H.out.1.slv
      clear H
      rcases hsv with ⟨rfl, -⟩ | ⟨b5, o5, c5, rfl⟩
      all_goals (
        repeat' (first | exact tf0 ‹_› | exact tf1 ‹_› | exact False.elim ‹_› | (with_reducible refine Al.intro ?_; intro pb hpb; (try simp only [hupd_none'] at hpb); (repeat rcases hpb with ⟨⟨hpx, hpy⟩, hpb⟩)) | with_reducible refine need ?_ | ((with_reducible first | apply frk0 | apply frk1 | apply frk2 | apply frk3 | apply frk4 | apply frk5 | apply frk6 | apply frk7 | apply frk8 | apply frk9) <;> intro h <;> try (exfalso; omega)) | with_reducible refine quiet_and ?_ ?_ | with_reducible refine awp_drawnA mixed (by decide +kernel) ?_ | ((fail_if_success with_reducible refine stp ?_); simp -implicitDefEqProofs only [go_sem, Nat.reduceEqDiff, Nat.reduceAdd, Nat.reduceLT, Nat.reduceMul, Nat.reduceSub, Nat.reduceLeDiff, ↓reduceIte, reduceCtorEq, ↓String.reduceEq, String.reduceNe, Int.reduceToNat, Int.reduceLT, Int.reduceLE, Int.reduceGT, Int.reduceGE, Int.reduceEq, Int.reduceNe, Int.reduceBEq, Int.reduceBNe, Int.reduceAdd, Int.reduceSub, Int.reduceMul, Int.reduceNeg,  *]))
        exact ⟨_, Sub.refl _, HW.out⟩)
end Go.Proofs.YtdckcophbmnjjaaGreatDoor
