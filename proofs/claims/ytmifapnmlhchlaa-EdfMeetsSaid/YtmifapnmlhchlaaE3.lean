/- Jobs that wait: a heap's methods. -/
import Derived.Test.YtmifapnmlhchlaaE2
import Derived.Test.YtmifapnmlhchlaaLg9
set_option linter.all false
namespace Go.Proofs.Ytmifapnmlhchlaa
open Go Go.Proofs.Ytmifapnmlhchlaa.Ab
open Go.Proofs (Try.prog)
set_option maxRecDepth 100000
theorem mth_Len : MethodIs Try.prog 62 "Len" 26 := fun v w => by kernel_rfl
theorem mth_Less : MethodIs Try.prog 62 "Less" 101 := fun v w => by kernel_rfl
theorem mth_Swap : MethodIs Try.prog 62 "Swap" 104 := fun v w => by kernel_rfl
theorem mth_Push : MethodIs Try.prog 62 "Push" 103 := fun v w => by kernel_rfl
theorem mth_Pop : MethodIs Try.prog 62 "Pop" 102 := fun v w => by kernel_rfl
abbrev encC (w : Wt) : List AVal := [.int .i64 w.1.1, .int .i64 w.1.2.1, .int .i64 w.1.2.2.1, .int .i64 w.1.2.2.2, .int .i64 w.2]
theorem encC_len (w : Wt) : (encC w).length = 5 := rfl
theorem encC_fl (C : List Wt) : (C.flatMap encC).all AVal.flat = true := by
  rw [List.all_eq_true]
  intro x hx
  obtain ⟨e, _, he⟩ := List.mem_flatMap.1 hx
  simp at he
  rcases he with rfl | rfl | rfl | rfl | rfl <;> rfl
instance : Inhabited Wt := ⟨((0, 0, 0, 0), 0)⟩
theorem w_at (C : List Wt) (pre post : List AVal) (i : Nat) (hi : i < C.length) (x : Wt) (hx : C.getD i default = x) : ((pre ++ (C.flatMap encC ++ post)).drop (pre.length + i * 5)).take 5 = [.int .i64 x.1.1, .int .i64 x.1.2.1, .int .i64 x.1.2.2.1, .int .i64 x.1.2.2.2, .int .i64 x.2] := by
  rw [row_at (enc := encC) (sz := 5) encC_len C pre post i hi, hx]
theorem w_len (C : List Wt) (pre post : List AVal) (i : Nat) (hi : i < C.length) : pre.length + i * 5 + 5 ≤ (pre ++ (C.flatMap encC ++ post)).length := row_len (enc := encC) (sz := 5) encC_len C pre post i hi
/-- Jobs that wait, in memory. -/
abbrev HP (m : Heap) (p : Nat) (v : AVal) (n : Int) (H : List Wt) : Prop := Ob encC 5 m p [.int .i64 n] [] 2 v H
/-- Ahead: by slot, stream, time, place. -/
def LW (n : Int) (a b : Wt) : Prop := LJ n a.1 b.1 ∨ (¬ LJ n b.1 a.1 ∧ a.2 < b.2)
instance (n : Int) (a b : Wt) : Decidable (LW n a b) := by unfold LW; exact inferInstance
def ltW (n : Int) (a b : Wt) : Bool := decide (LW n a b)
theorem or2_lt (n : Int) (a b : Wt) : decide (orF [cmpJ n a.1 b.1, cmpI a.2 b.2] < 0) = ltW n a b := by
  unfold ltW
  rw [Bool.eq_iff_iff]
  simp only [decide_eq_true_eq]
  have h1 := cmpJ_lt n a.1 b.1
  have h2 : cmpJ n a.1 b.1 = 0 ↔ ¬ LJ n a.1 b.1 ∧ ¬ LJ n b.1 a.1 := by
    unfold cmpJ LJ orF orF orF orF
    simp only [cmpI_ne]
    have k : ∀ x y, cmpI x y = 0 ↔ x = y := fun x y => by have := cmpI_ne x y; omega
    repeat' split
    all_goals (try rw [k])
    all_goals omega
  have h3 := cmpI_lt a.2 b.2
  unfold LW orF orF orF
  split
  · rename_i h
    rw [h1]
    constructor
    · exact .inl
    · rintro (h4 | ⟨h4, _⟩)
      · exact h4
      · by_cases h5 : LJ n a.1 b.1
        · exact h5
        · exact absurd (h2.2 ⟨h5, h4⟩) h
  · rename_i h
    have h' : cmpJ n a.1 b.1 = 0 := by omega
    obtain ⟨q1, q2⟩ := h2.1 h'
    split
    · rw [h3]; simp [q1, q2]
    · rename_i h4
      have : ¬ cmpI a.2 b.2 < 0 := by omega
      rw [h3] at this
      simp [q1, q2, this]
theorem len_spec (G : Nat → AVal) {m : Heap} {p : Nat} {v : AVal} {n : Int} {H : List Wt} (h : HP m p v n H) : CallWP Try.prog G 26 [.ptr p 0] m fun v' m' => v' = .int .i64 (H.length : Nat) ∧ m' = m := by
  have hm := h.at_
  rcases h.row.slv with ⟨rfl, rfl⟩ | ⟨b, o, cap, rfl⟩
  all_goals (
    clear h
    refine callWP_body Try.func26 rfl (N := 8) rfl (rs := [.tmp 2]) rfl en_26 (of_decide_eq_true rfl) ?_
    repeat' (first | exact tf0 ‹_› | exact tf1 ‹_› | exact False.elim ‹_› | (with_reducible refine Al.intro ?_; intro pb hpb; (try simp only [hupd_none'] at hpb); (repeat rcases hpb with ⟨⟨hpx, hpy⟩, hpb⟩)) | with_reducible refine need ?_ | ((with_reducible first | refine frk0 ?_ ?_ | refine frk1 ?_ ?_ | refine frk2 ?_ ?_ | refine frk3 ?_ ?_ | refine frk4 ?_ ?_ | refine frk5 ?_ ?_ | refine frk6 ?_ ?_ | refine frk7 ?_ ?_ | refine frk8 ?_ ?_ | refine frk9 ?_ ?_) <;> intro h <;> try (exfalso; omega)) | with_reducible refine quiet_and ?_ ?_ | with_reducible refine awp_drawnA mixed (by decide +kernel) ?_ | ((fail_if_success with_reducible refine stp ?_); simp -implicitDefEqProofs only [go_sem, Nat.reduceEqDiff, Nat.reduceAdd, Nat.reduceLT, Nat.reduceMul, Nat.reduceSub, Nat.reduceLeDiff, ↓reduceIte, reduceCtorEq, ↓String.reduceEq, String.reduceNe, Int.reduceToNat, Int.reduceLT, Int.reduceLE, Int.reduceGT, Int.reduceGE, Int.reduceEq, Int.reduceNe, Int.reduceBEq, Int.reduceBNe, Int.reduceAdd, Int.reduceSub, Int.reduceMul, Int.reduceNeg,  *]))
    exact ⟨m, (by (repeat refine Sub.fresh ?_ (by assumption)); exact Sub.refl m), rfl, rfl⟩)
set_option maxHeartbeats 1000000 in
theorem less_spec (G : Nat → AVal) {m : Heap} {p : Nat} {v : AVal} {n : Int} {H : List Wt} (h : HP m p v n H) (hn : 1 ≤ n) (hr : ∀ w ∈ H, rightJ w.1 = true) (i j : Nat) (hi : i < H.length) (hj : j < H.length) :
    CallWP Try.prog G 101 [.ptr p 0, .int .i64 i, .int .i64 j] m fun v' m' => v' = .bool (ltW n (H.getD i default) (H.getD j default)) ∧ m' = m := by
  have hm := h.at_
  obtain ⟨b, pre, post, N, cap, hb, rfl, -, -⟩ := h.row.at' (by omega)
  obtain ⟨x, hx⟩ : ∃ x, H.getD i default = x := ⟨_, rfl⟩
  obtain ⟨y, hy⟩ : ∃ y, H.getD j default = y := ⟨_, rfl⟩
  have g1 := w_at H pre post i hi x hx
  have g2 := w_at H pre post j hj y hy
  have l1 := w_len H pre post i hi
  have l2 := w_len H pre post j hj
  have rx : rightJ x.1 = true := hr _ (by rw [← hx]; simp [List.getD_eq_getElem?_getD, hi])
  have ry : rightJ y.1 = true := hr _ (by rw [← hy]; simp [List.getD_eq_getElem?_getD, hj])
  have HX := Hid.mk rx
  have HY := Hid.mk ry
  have nl := neL hm
  have nr := neR hm
  have nl2 := neL hb
  have nr2 := neR hb
  rw [hx, hy]
  clear hx hy h hr rx ry
  refine callWP_body Try.func101 rfl (N := 40) rfl (rs := [.tmp 6]) rfl en_101 (of_decide_eq_true rfl) ?_
  repeat' (first | exact tf0 ‹_› | exact tf1 ‹_› | exact False.elim ‹_› | (with_reducible refine Al.intro ?_; intro pb hpb; (try simp only [hupd_none'] at hpb); (repeat rcases hpb with ⟨⟨hpx, hpy⟩, hpb⟩)) | with_reducible refine need ?_ | ((with_reducible first | refine frk0 ?_ ?_ | refine frk1 ?_ ?_ | refine frk2 ?_ ?_ | refine frk3 ?_ ?_ | refine frk4 ?_ ?_ | refine frk5 ?_ ?_ | refine frk6 ?_ ?_ | refine frk7 ?_ ?_ | refine frk8 ?_ ?_ | refine frk9 ?_ ?_) <;> intro h <;> try (exfalso; omega)) | with_reducible refine quiet_and ?_ ?_ | with_reducible refine awp_drawnA mixed (by decide +kernel) ?_ | ((fail_if_success with_reducible refine stp ?_); simp -implicitDefEqProofs only [go_sem, Nat.reduceEqDiff, Nat.reduceAdd, Nat.reduceLT, Nat.reduceMul, Nat.reduceSub, Nat.reduceLeDiff, ↓reduceIte, reduceCtorEq, ↓String.reduceEq, String.reduceNe, Int.reduceToNat, Int.reduceLT, Int.reduceLE, Int.reduceGT, Int.reduceGE, Int.reduceEq, Int.reduceNe, Int.reduceBEq, Int.reduceBNe, Int.reduceAdd, Int.reduceSub, Int.reduceMul, Int.reduceNeg,  *]))
  refine awp_drawnE [(0, .q), (4, .q), (7, .r [16]), (11, .r [16]), (1, .q), (8, .r [16]), (2, .q), (9, .r [16]), (3, .q), (10, .r [16]), (5, .q), (12, .r [16]), (6, .q), (13, .r [16]), (14, .q), (15, .q), (16, .e), (17, .e)] (fun _ => .undef) (fun _ => False) (fun u y => u = 16 ∧ (y = p ∨ y = b)) mixed (by decide +kernel) ?_
  repeat' (first | exact tf0 ‹_› | exact tf1 ‹_› | exact False.elim ‹_› | (with_reducible refine Al.intro ?_; intro pb hpb; (try simp only [hupd_none'] at hpb); (repeat rcases hpb with ⟨⟨hpx, hpy⟩, hpb⟩)) | with_reducible refine need ?_ | ((with_reducible first | refine frk0 ?_ ?_ | refine frk1 ?_ ?_ | refine frk2 ?_ ?_ | refine frk3 ?_ ?_ | refine frk4 ?_ ?_ | refine frk5 ?_ ?_ | refine frk6 ?_ ?_ | refine frk7 ?_ ?_ | refine frk8 ?_ ?_ | refine frk9 ?_ ?_) <;> intro h <;> try (exfalso; omega)) | with_reducible refine quiet_and ?_ ?_ | with_reducible refine awp_drawnA mixed (by decide +kernel) ?_ | ((fail_if_success with_reducible refine stp ?_); simp -implicitDefEqProofs only [go_sem, Nat.reduceEqDiff, Nat.reduceAdd, Nat.reduceLT, Nat.reduceMul, Nat.reduceSub, Nat.reduceLeDiff, ↓reduceIte, reduceCtorEq, ↓String.reduceEq, String.reduceNe, Int.reduceToNat, Int.reduceLT, Int.reduceLE, Int.reduceGT, Int.reduceGE, Int.reduceEq, Int.reduceNe, Int.reduceBEq, Int.reduceBNe, Int.reduceAdd, Int.reduceSub, Int.reduceMul, Int.reduceNeg,  true_and, false_and, true_or, or_true, false_or, or_false, anil, *]))
  refine awp_drawnE [(0, .q), (1, .q), (2, .q), (3, .q), (4, .q), (5, .q), (6, .q), (7, .q), (8, .k), (9, .q), (10, .q), (11, .q), (12, .q), (13, .k), (14, .q), (15, .e), (16, .q), (17, .q)] (fun i => match i with | 8 => .int .i64 (cmpJ n x.1 y.1) | 13 => .int .i64 (cmpI x.2 y.2) | _ => .undef) (fun _ => False) (fun _ _ => False) mixed (by decide +kernel) ?_
  repeat' (first | exact tf0 ‹_› | exact tf1 ‹_› | exact False.elim ‹_› | (with_reducible refine Al.intro ?_; intro pb hpb; (try simp only [hupd_none'] at hpb); (repeat rcases hpb with ⟨⟨hpx, hpy⟩, hpb⟩)) | with_reducible refine need ?_ | ((with_reducible first | refine frk0 ?_ ?_ | refine frk1 ?_ ?_ | refine frk2 ?_ ?_ | refine frk3 ?_ ?_ | refine frk4 ?_ ?_ | refine frk5 ?_ ?_ | refine frk6 ?_ ?_ | refine frk7 ?_ ?_ | refine frk8 ?_ ?_ | refine frk9 ?_ ?_) <;> intro h <;> try (exfalso; omega)) | with_reducible refine quiet_and ?_ ?_ | with_reducible refine awp_drawnA mixed (by decide +kernel) ?_ | ((fail_if_success with_reducible refine stp ?_); simp -implicitDefEqProofs only [go_sem, Nat.reduceEqDiff, Nat.reduceAdd, Nat.reduceLT, Nat.reduceMul, Nat.reduceSub, Nat.reduceLeDiff, ↓reduceIte, reduceCtorEq, ↓String.reduceEq, String.reduceNe, Int.reduceToNat, Int.reduceLT, Int.reduceLE, Int.reduceGT, Int.reduceGE, Int.reduceEq, Int.reduceNe, Int.reduceBEq, Int.reduceBNe, Int.reduceAdd, Int.reduceSub, Int.reduceMul, Int.reduceNeg,  anil, *]))
  · exact fun m' _ => cmpJ_spec G n x.1 y.1 HX.out HY.out hn m'
  · exact fun m' _ => cmpI_spec G x.2 y.2 m'
  refine CallWP.to (or_spec G [cmpJ n x.1 y.1, cmpI x.2 y.2] _ _ _ _ (by rw [hupd_at, if_pos rfl]; rfl) (by simp)) ?_
  repeat' (first | exact tf0 ‹_› | exact tf1 ‹_› | exact False.elim ‹_› | (with_reducible refine Al.intro ?_; intro pb hpb; (try simp only [hupd_none'] at hpb); (repeat rcases hpb with ⟨⟨hpx, hpy⟩, hpb⟩)) | with_reducible refine need ?_ | ((with_reducible first | refine frk0 ?_ ?_ | refine frk1 ?_ ?_ | refine frk2 ?_ ?_ | refine frk3 ?_ ?_ | refine frk4 ?_ ?_ | refine frk5 ?_ ?_ | refine frk6 ?_ ?_ | refine frk7 ?_ ?_ | refine frk8 ?_ ?_ | refine frk9 ?_ ?_) <;> intro h <;> try (exfalso; omega)) | with_reducible refine quiet_and ?_ ?_ | with_reducible refine awp_drawnA mixed (by decide +kernel) ?_ | ((fail_if_success with_reducible refine stp ?_); simp -implicitDefEqProofs only [go_sem, Nat.reduceEqDiff, Nat.reduceAdd, Nat.reduceLT, Nat.reduceMul, Nat.reduceSub, Nat.reduceLeDiff, ↓reduceIte, reduceCtorEq, ↓String.reduceEq, String.reduceNe, Int.reduceToNat, Int.reduceLT, Int.reduceLE, Int.reduceGT, Int.reduceGE, Int.reduceEq, Int.reduceNe, Int.reduceBEq, Int.reduceBNe, Int.reduceAdd, Int.reduceSub, Int.reduceMul, Int.reduceNeg,  *]))
  refine ⟨m, (by (repeat refine Sub.fresh ?_ (by assumption)); exact Sub.refl m), ?_, rfl⟩
  show AVal.bool (decide (orF [cmpJ n x.1 y.1, cmpI x.2 y.2] < 0)) = _
  rw [or2_lt]
set_option maxHeartbeats 1000000 in
theorem swap_spec (G : Nat → AVal) {m : Heap} {p : Nat} {v : AVal} {n : Int} {H : List Wt} (h : HP m p v n H) (i j : Nat) (hi : i < H.length) (hj : j < H.length) (K : AVal → Heap → Prop)
    (hK : ∀ m', HP m' p v n (swp H i j) → Fr p v m v m' → K (.tuple []) m') : CallWP Try.prog G 104 [.ptr p 0, .int .i64 i, .int .i64 j] m K := by
  have hm := h.at_
  have hne := h.ne
  obtain ⟨b, pre, post, N, cap, hb, rfl, hN, hc⟩ := h.row.at' (by omega)
  have g3 := row_swap (enc := encC) (sz := 5) encC_len H pre post i j hi hj
  obtain ⟨x, hx⟩ : ∃ x, H.getD i default = x := ⟨_, rfl⟩
  obtain ⟨y, hy⟩ : ∃ y, H.getD j default = y := ⟨_, rfl⟩
  have g1 := w_at H pre post i hi x hx
  have g2 := w_at H pre post j hj y hy
  rw [hx, hy] at g3
  have l1 := w_len H pre post i hi
  have l2 := w_len H pre post j hj
  have l3 : (splice (pre ++ (H.flatMap encC ++ post)) (pre.length + i * 5) (encC y)).length = (pre ++ (H.flatMap encC ++ post)).length := by
    unfold splice; simp only [List.length_append, List.length_take, List.length_drop, encC_len] at *; omega
  have hbp : b ≠ p := fun e => hne (by rw [e]; rfl)
  have hpb := Ne.symm hbp
  have HK := Hid.mk hK
  have hC : (swp H i j).length = H.length := swp_len H i j
  have HF := Hid.mk (show K (.tuple []) (hupd m b (.cells (pre ++ ((swp H i j).flatMap encC ++ post)) N)) from hK _ ⟨by simp only [hupd]; rw [if_neg hpb]; exact hm, .inr ⟨b, _, by simp [hupd], pre, post, N, cap, by rw [hC], rfl, hN, by rw [hC]; exact hc⟩, hne⟩ ⟨fun z hz hz2 hz3 => by simp only [hupd]; rw [if_neg (fun e => hz2 (by rw [e]; rfl))], fun c hc => .inr hc⟩)
  clear hK HK hx hy h hne hC
  refine callWP_body Try.func104 rfl (N := 32) rfl (rs := []) rfl en_104 (of_decide_eq_true rfl) ?_
  repeat' (first | exact tf0 ‹_› | exact tf1 ‹_› | exact False.elim ‹_› | (with_reducible refine Al.intro ?_; intro pb hpb; (try simp only [hupd_none'] at hpb); (repeat rcases hpb with ⟨⟨hpx, hpy⟩, hpb⟩)) | with_reducible refine need ?_ | ((with_reducible first | refine frk0 ?_ ?_ | refine frk1 ?_ ?_ | refine frk2 ?_ ?_ | refine frk3 ?_ ?_ | refine frk4 ?_ ?_ | refine frk5 ?_ ?_ | refine frk6 ?_ ?_ | refine frk7 ?_ ?_ | refine frk8 ?_ ?_ | refine frk9 ?_ ?_) <;> intro h <;> try (exfalso; omega)) | with_reducible refine quiet_and ?_ ?_ | with_reducible refine awp_drawnA mixed (by decide +kernel) ?_ | ((fail_if_success with_reducible refine stp ?_); simp -implicitDefEqProofs only [go_sem, Nat.reduceEqDiff, Nat.reduceAdd, Nat.reduceLT, Nat.reduceMul, Nat.reduceSub, Nat.reduceLeDiff, ↓reduceIte, reduceCtorEq, ↓String.reduceEq, String.reduceNe, Int.reduceToNat, Int.reduceLT, Int.reduceLE, Int.reduceGT, Int.reduceGE, Int.reduceEq, Int.reduceNe, Int.reduceBEq, Int.reduceBNe, Int.reduceAdd, Int.reduceSub, Int.reduceMul, Int.reduceNeg,  *]))
  exact ⟨_, Sub.refl _, HF.out⟩
theorem encW_eq (w : Wt) : encWt w = .agg (encC w) := rfl
set_option maxHeartbeats 1000000 in
theorem push_spec (G : Nat → AVal) {m : Heap} {p : Nat} {v : AVal} {n : Int} {H : List Wt} (h : HP m p v n H) (hl : H.length ≤ 1000) (w : Wt) (K : AVal → Heap → Prop)
    (hK : ∀ v' m', HP m' p v' n (H ++ [w]) → Fr p v m v' m' → K (.tuple []) m') : CallWP Try.prog G 103 [.ptr p 0, .iface 67 (encWt w)] m K := by
  have hm := h.at_
  have HQ := Hid.mk h
  have HK := Hid.mk hK
  have nl := neL hm
  have nr := neR hm
  clear hK h
  refine callWP_body Try.func103 rfl (N := 22) rfl (rs := []) rfl en_103 (of_decide_eq_true rfl) ?_
  repeat' (first | exact tf0 ‹_› | exact tf1 ‹_› | exact False.elim ‹_› | (with_reducible refine Al.intro ?_; intro pb hpb; (try simp only [hupd_none'] at hpb); (repeat rcases hpb with ⟨⟨hpx, hpy⟩, hpb⟩)) | with_reducible refine need ?_ | ((with_reducible first | refine frk0 ?_ ?_ | refine frk1 ?_ ?_ | refine frk2 ?_ ?_ | refine frk3 ?_ ?_ | refine frk4 ?_ ?_ | refine frk5 ?_ ?_ | refine frk6 ?_ ?_ | refine frk7 ?_ ?_ | refine frk8 ?_ ?_ | refine frk9 ?_ ?_) <;> intro h <;> try (exfalso; omega)) | with_reducible refine quiet_and ?_ ?_ | with_reducible refine awp_drawnA mixed (by decide +kernel) ?_ | ((fail_if_success with_reducible refine stp ?_); simp -implicitDefEqProofs only [go_sem, Nat.reduceEqDiff, Nat.reduceAdd, Nat.reduceLT, Nat.reduceMul, Nat.reduceSub, Nat.reduceLeDiff, ↓reduceIte, reduceCtorEq, ↓String.reduceEq, String.reduceNe, Int.reduceToNat, Int.reduceLT, Int.reduceLE, Int.reduceGT, Int.reduceGE, Int.reduceEq, Int.reduceNe, Int.reduceBEq, Int.reduceBNe, Int.reduceAdd, Int.reduceSub, Int.reduceMul, Int.reduceNeg,  encWt, *]))
  rename Nat => q
  rename m q = none => hq
  refine app1 (enc := encC) (sz := 5) (C := H) (x := w) Try.underlying60 tk_67 eb_67 zl_67 (by decide) (by rw [Try.underlying60]; rfl) (by unfold isInt; rw [Try.underlying60]) encC_len rfl ⟨5, by rw [hupd_at, if_pos rfl]⟩ ((HQ.out.row.fresh (by assumption)).fresh (by rw [hupd_ne (by assumption)]; exact hq)) (by omega) (fun v2 m2 h1 h2 => ?_)
  obtain ⟨k1, k2, k3⟩ := HQ.out.app (by exact (by (repeat refine Sub.fresh ?_ (by assumption)); exact Sub.refl _)) h1 h2
  have H1 := Hid.mk k2
  have H2 := Hid.mk k3
  rcases h1.slv with ⟨_, hnil⟩ | ⟨b2, o2, c2, rfl⟩
  · simp at hnil
  clear h1 h2 k2 k3
  repeat' (first | exact tf0 ‹_› | exact tf1 ‹_› | exact False.elim ‹_› | (with_reducible refine Al.intro ?_; intro pb hpb; (try simp only [hupd_none'] at hpb); (repeat rcases hpb with ⟨⟨hpx, hpy⟩, hpb⟩)) | with_reducible refine need ?_ | ((with_reducible first | refine frk0 ?_ ?_ | refine frk1 ?_ ?_ | refine frk2 ?_ ?_ | refine frk3 ?_ ?_ | refine frk4 ?_ ?_ | refine frk5 ?_ ?_ | refine frk6 ?_ ?_ | refine frk7 ?_ ?_ | refine frk8 ?_ ?_ | refine frk9 ?_ ?_) <;> intro h <;> try (exfalso; omega)) | with_reducible refine quiet_and ?_ ?_ | with_reducible refine awp_drawnA mixed (by decide +kernel) ?_ | ((fail_if_success with_reducible refine stp ?_); simp -implicitDefEqProofs only [go_sem, Nat.reduceEqDiff, Nat.reduceAdd, Nat.reduceLT, Nat.reduceMul, Nat.reduceSub, Nat.reduceLeDiff, ↓reduceIte, reduceCtorEq, ↓String.reduceEq, String.reduceNe, Int.reduceToNat, Int.reduceLT, Int.reduceLE, Int.reduceGT, Int.reduceGE, Int.reduceEq, Int.reduceNe, Int.reduceBEq, Int.reduceBNe, Int.reduceAdd, Int.reduceSub, Int.reduceMul, Int.reduceNeg,  anil, *]))
  exact ⟨_, Sub.refl _, HK.out _ _ H1.out H2.out⟩
set_option maxHeartbeats 1000000 in
theorem pop_spec (G : Nat → AVal) {m : Heap} {p : Nat} {v : AVal} {n : Int} {H : List Wt} (h : HP m p v n H) (h0 : 0 < H.length) (hl : H.length ≤ 1000) (w : Wt) (hw : H.getD (H.length - 1) default = w) (K : AVal → Heap → Prop)
    (hK : ∀ v' m', HP m' p v' n H.dropLast → Fr p v m v' m' → K (.iface 67 (encWt w)) m') : CallWP Try.prog G 102 [.ptr p 0] m K := by
  have hm := h.at_
  have hne := h.ne
  obtain ⟨b, pre, post, N, cap, hb, rfl, hN, hc⟩ := h.row.at' h0
  have HK := Hid.mk hK
  have nl := neL hm
  have nr := neR hm
  have nl2 := neL hb
  have nr2 := neR hb
  have g := w_at H pre post (H.length - 1) (by omega) w hw
  have l := w_len H pre post (H.length - 1) (by omega)
  have w1 : IntKind.i64.wrap ((H.length : Int) - 1) = ((H.length - 1 : Nat) : Int) := by rw [wrap_i64 (by omega) (by omega)]; omega
  have hbp : b ≠ p := fun e => hne (by rw [e]; rfl)
  have hpb := Ne.symm hbp
  have HW := Hid.mk hw
  clear hK hw
  refine callWP_body Try.func102 rfl (N := 29) rfl (rs := [.tmp 2]) rfl en_102 (of_decide_eq_true rfl) ?_
  repeat' (first | exact tf0 ‹_› | exact tf1 ‹_› | exact False.elim ‹_› | (with_reducible refine Al.intro ?_; intro pb hpb; (try simp only [hupd_none'] at hpb); (repeat rcases hpb with ⟨⟨hpx, hpy⟩, hpb⟩)) | with_reducible refine need ?_ | ((with_reducible first | refine frk0 ?_ ?_ | refine frk1 ?_ ?_ | refine frk2 ?_ ?_ | refine frk3 ?_ ?_ | refine frk4 ?_ ?_ | refine frk5 ?_ ?_ | refine frk6 ?_ ?_ | refine frk7 ?_ ?_ | refine frk8 ?_ ?_ | refine frk9 ?_ ?_) <;> intro h <;> try (exfalso; omega)) | with_reducible refine quiet_and ?_ ?_ | with_reducible refine awp_drawnA mixed (by decide +kernel) ?_ | ((fail_if_success with_reducible refine stp ?_); simp -implicitDefEqProofs only [go_sem, Nat.reduceEqDiff, Nat.reduceAdd, Nat.reduceLT, Nat.reduceMul, Nat.reduceSub, Nat.reduceLeDiff, ↓reduceIte, reduceCtorEq, ↓String.reduceEq, String.reduceNe, Int.reduceToNat, Int.reduceLT, Int.reduceLE, Int.reduceGT, Int.reduceGE, Int.reduceEq, Int.reduceNe, Int.reduceBEq, Int.reduceBNe, Int.reduceAdd, Int.reduceSub, Int.reduceMul, Int.reduceNeg,  anil, encWt, *]))
  have eo : (if (cap : Int) = 0 then pre.length else pre.length) = pre.length := ite_self _
  rw [eo]
  have hH : H = H.dropLast ++ [w] := by
    have hne' : H ≠ [] := fun e => by rw [e] at h0; simp at h0
    have e1 := List.dropLast_concat_getLast hne'
    have e2 : H.getLast hne' = w := by rw [← HW.out, List.getLast_eq_getElem, List.getD_eq_getElem?_getD, List.getElem?_eq_getElem (by omega)]; rfl
    rw [e2] at e1; exact e1.symm
  have hdl : H.dropLast.length = H.length - 1 := List.length_dropLast
  have hblk : pre ++ (H.flatMap encC ++ post) = pre ++ (H.dropLast.flatMap encC ++ (encC w ++ post)) := by
    conv => lhs; rw [hH]
    simp only [List.flatMap_append, List.flatMap_cons, List.flatMap_nil, List.append_nil, List.append_assoc]
  refine ⟨hupd m p (.cells [.int .i64 n, .slice b pre.length (H.length - 1) cap] 2), Sub.hold (Sub.fresh (Sub.refl _) hpb), HK.out (.slice b pre.length (H.length - 1) cap) _ ⟨by simp [hupd], .inr ⟨b, _, by rw [hupd_ne hbp]; exact hb, pre, encC w ++ post, N, cap, by rw [hdl], by rw [hblk], hN, by rw [hdl]; omega⟩, fun e => hbp (by simpa [bOf] using e)⟩ ⟨fun x hx _ _ => hupd_ne hx, fun c hc => .inr hc⟩⟩
end Go.Proofs.Ytmifapnmlhchlaa
