/- Streams: what they ask for together. -/
import Derived.Test.YtmifapnmlhchlaaX3
set_option linter.all false
namespace Go.Proofs.Ytmifapnmlhchlaa
open Go Go.Proofs.Ytmifapnmlhchlaa.Ab
open Go.Proofs (Try.prog)
set_option maxRecDepth 100000
theorem rright26_spec (G : Nat → AVal) (C : List Stm) (hl : C.length < 9223372036854775808) (n : Int) (v : AVal) (m : Heap) (hs : RdS C v m) (K : AVal → Heap → Prop)
    (hK : ∀ b : Bool, (b = true ↔ rightC C n) → K (.bool b) m) : CallWP Try.prog G 36 [v, .int .i64 n] m K := by
  have HK := Hid.mk hK
  clear hK
  refine callWP_body Try.func36 rfl (N := 15) rfl (rs := [.tmp 4]) rfl en_36 (of_decide_eq_true rfl) ?_
  repeat' (first | exact tf0 ‹_› | exact tf1 ‹_› | exact False.elim ‹_› | (with_reducible refine Al.intro ?_; intro pb hpb; (try simp only [hupd_none'] at hpb); (repeat rcases hpb with ⟨⟨hpx, hpy⟩, hpb⟩)) | with_reducible refine need ?_ | ((with_reducible first | refine frk0 ?_ ?_ | refine frk1 ?_ ?_ | refine frk2 ?_ ?_ | refine frk3 ?_ ?_ | refine frk4 ?_ ?_ | refine frk5 ?_ ?_ | refine frk6 ?_ ?_ | refine frk7 ?_ ?_ | refine frk8 ?_ ?_ | refine frk9 ?_ ?_) <;> intro h <;> try (exfalso; omega)) | with_reducible refine quiet_and ?_ ?_ | with_reducible refine awp_drawnA mixed (by decide +kernel) ?_ | ((fail_if_success with_reducible refine stp ?_); simp -implicitDefEqProofs only [go_sem, Nat.reduceEqDiff, Nat.reduceAdd, Nat.reduceLT, Nat.reduceMul, Nat.reduceSub, Nat.reduceLeDiff, ↓reduceIte, reduceCtorEq, ↓String.reduceEq, String.reduceNe, Int.reduceToNat, Int.reduceLT, Int.reduceLE, Int.reduceGT, Int.reduceGE, Int.reduceEq, Int.reduceNe, Int.reduceBEq, Int.reduceBNe, Int.reduceAdd, Int.reduceSub, Int.reduceMul, Int.reduceNeg,  *]))
  refine check25_spec G C hl n v m hs _ (fun k e he => ?_)
  have HE := Hid.mk he
  clear he
  by_cases h0 : e = 0
  · have HB := Hid.mk (HE.out.1 h0)
    repeat' (first | exact tf0 ‹_› | exact tf1 ‹_› | exact False.elim ‹_› | (with_reducible refine Al.intro ?_; intro pb hpb; (try simp only [hupd_none'] at hpb); (repeat rcases hpb with ⟨⟨hpx, hpy⟩, hpb⟩)) | with_reducible refine need ?_ | ((with_reducible first | refine frk0 ?_ ?_ | refine frk1 ?_ ?_ | refine frk2 ?_ ?_ | refine frk3 ?_ ?_ | refine frk4 ?_ ?_ | refine frk5 ?_ ?_ | refine frk6 ?_ ?_ | refine frk7 ?_ ?_ | refine frk8 ?_ ?_ | refine frk9 ?_ ?_) <;> intro h <;> try (exfalso; omega)) | with_reducible refine quiet_and ?_ ?_ | with_reducible refine awp_drawnA mixed (by decide +kernel) ?_ | ((fail_if_success with_reducible refine stp ?_); simp -implicitDefEqProofs only [go_sem, Nat.reduceEqDiff, Nat.reduceAdd, Nat.reduceLT, Nat.reduceMul, Nat.reduceSub, Nat.reduceLeDiff, ↓reduceIte, reduceCtorEq, ↓String.reduceEq, String.reduceNe, Int.reduceToNat, Int.reduceLT, Int.reduceLE, Int.reduceGT, Int.reduceGE, Int.reduceEq, Int.reduceNe, Int.reduceBEq, Int.reduceBNe, Int.reduceAdd, Int.reduceSub, Int.reduceMul, Int.reduceNeg,  *]))
    exact ⟨_, Sub.refl _, HK.out true ⟨fun _ => HB.out, fun _ => rfl⟩⟩
  · have HB := Hid.mk (fun h => h0 (HE.out.2 h))
    have hq : (e == 0) = false := by simpa using h0
    repeat' (first | exact tf0 ‹_› | exact tf1 ‹_› | exact False.elim ‹_› | (with_reducible refine Al.intro ?_; intro pb hpb; (try simp only [hupd_none'] at hpb); (repeat rcases hpb with ⟨⟨hpx, hpy⟩, hpb⟩)) | with_reducible refine need ?_ | ((with_reducible first | refine frk0 ?_ ?_ | refine frk1 ?_ ?_ | refine frk2 ?_ ?_ | refine frk3 ?_ ?_ | refine frk4 ?_ ?_ | refine frk5 ?_ ?_ | refine frk6 ?_ ?_ | refine frk7 ?_ ?_ | refine frk8 ?_ ?_ | refine frk9 ?_ ?_) <;> intro h <;> try (exfalso; omega)) | with_reducible refine quiet_and ?_ ?_ | with_reducible refine awp_drawnA mixed (by decide +kernel) ?_ | ((fail_if_success with_reducible refine stp ?_); simp -implicitDefEqProofs only [go_sem, Nat.reduceEqDiff, Nat.reduceAdd, Nat.reduceLT, Nat.reduceMul, Nat.reduceSub, Nat.reduceLeDiff, ↓reduceIte, reduceCtorEq, ↓String.reduceEq, String.reduceNe, Int.reduceToNat, Int.reduceLT, Int.reduceLE, Int.reduceGT, Int.reduceGE, Int.reduceEq, Int.reduceNe, Int.reduceBEq, Int.reduceBNe, Int.reduceAdd, Int.reduceSub, Int.reduceMul, Int.reduceNeg,  *]))
    refine ⟨_, Sub.refl _, ?_⟩
    exact HK.out false ⟨fun h => (by cases h), fun h => absurd h HB.out⟩
/-- The longest frame. -/
def blkF (C : List Stm) : Int := C.foldl (fun a s => if a < costS s then costS s else a) 0
theorem blk_take (C : List Stm) (i : Nat) (h : i < C.length) : blkF (C.take (i + 1)) = if blkF (C.take i) < costS (C.getD i default) then costS (C.getD i default) else blkF (C.take i) := by
  unfold blkF
  rw [take_one C i h, List.foldl_append]; rfl
theorem blk_in (C : List Stm) : 0 ≤ blkF C ∧ blkF C ≤ 160 := by
  have : ∀ (C : List Stm) (a : Int), 0 ≤ a → a ≤ 160 → 0 ≤ C.foldl (fun a s => if a < costS s then costS s else a) a ∧ C.foldl (fun a s => if a < costS s then costS s else a) a ≤ 160 := by
    intro C
    induction C with
    | nil => intro a h1 h2; exact ⟨h1, h2⟩
    | cons s t ih =>
      intro a h1 h2
      rw [List.foldl_cons]
      have := costS_in s
      split
      · exact ih _ this.1 this.2
      · exact ih _ h1 h2
  exact this C 0 (by decide) (by decide)
theorem blk_le (C : List Stm) : ∀ s ∈ C, costS s ≤ blkF C := by
  have mono : ∀ (C : List Stm) (a : Int), a ≤ C.foldl (fun a s => if a < costS s then costS s else a) a := by
    intro C
    induction C with
    | nil => intro a; exact Int.le_refl _
    | cons s t ih =>
      intro a
      rw [List.foldl_cons]
      refine Int.le_trans ?_ (ih _)
      split <;> omega
  have : ∀ (C : List Stm) (a : Int), ∀ s ∈ C, costS s ≤ C.foldl (fun a s => if a < costS s then costS s else a) a := by
    intro C
    induction C with
    | nil => intro a s h; cases h
    | cons z t ih =>
      intro a s h
      rw [List.foldl_cons]
      rcases List.mem_cons.1 h with rfl | h
      · refine Int.le_trans ?_ (mono t _)
        split <;> omega
      · exact ih _ s h
  exact this C 0
set_option maxHeartbeats 1000000 in
theorem rblock_spec (G : Nat → AVal) (C : List Stm) (hl : C.length < 9223372036854775808) (v : AVal) (m : Heap) (hs : RdS C v m) : CallWP Try.prog G 37 [v] m fun v' m' => v' = .int .i64 (blkF C) ∧ m' = m := by
  obtain ⟨L, hL⟩ : ∃ L, L = C.length := ⟨_, rfl⟩
  have H0 := Hid.mk hL
  have ll : (C.map encS).length = L := by rw [List.length_map]; exact hL.symm
  obtain ⟨b, pre, post, N, cap, hw⟩ := hs.ways hL
  have lL : L < 9223372036854775808 := by omega
  clear hs hL hl
  rcases hw with ⟨hv, hz⟩ | ⟨hv, hb⟩ | hv
  all_goals (
    refine callWP_body Try.func37 rfl (N := 22) rfl (rs := [.tmp 2]) rfl en_37 (of_decide_eq_true rfl) ?_
    repeat' (first | exact tf0 ‹_› | exact tf1 ‹_› | exact False.elim ‹_› | (with_reducible refine Al.intro ?_; intro pb hpb; (try simp only [hupd_none'] at hpb); (repeat rcases hpb with ⟨⟨hpx, hpy⟩, hpb⟩)) | with_reducible refine need ?_ | ((with_reducible first | refine frk0 ?_ ?_ | refine frk1 ?_ ?_ | refine frk2 ?_ ?_ | refine frk3 ?_ ?_ | refine frk4 ?_ ?_ | refine frk5 ?_ ?_ | refine frk6 ?_ ?_ | refine frk7 ?_ ?_ | refine frk8 ?_ ?_ | refine frk9 ?_ ?_) <;> intro h <;> try (exfalso; omega)) | with_reducible refine quiet_and ?_ ?_ | with_reducible refine awp_drawnA mixed (by decide +kernel) ?_ | ((fail_if_success with_reducible refine stp ?_); simp -implicitDefEqProofs only [go_sem, Nat.reduceEqDiff, Nat.reduceAdd, Nat.reduceLT, Nat.reduceMul, Nat.reduceSub, Nat.reduceLeDiff, ↓reduceIte, reduceCtorEq, ↓String.reduceEq, String.reduceNe, Int.reduceToNat, Int.reduceLT, Int.reduceLE, Int.reduceGT, Int.reduceGE, Int.reduceEq, Int.reduceNe, Int.reduceBEq, Int.reduceBNe, Int.reduceAdd, Int.reduceSub, Int.reduceMul, Int.reduceNeg,  *]))
    refine awp_loopP 0 (fun ts m' => ts 3 = .int .i64 (blkF C) ∧ m' = m) (fun k ts m' => ∃ (i : Nat) (a : Int), Hid (k = L - i ∧ i ≤ L ∧ a = blkF (C.take i)) ∧ ts 0 = v ∧ ts 3 = .int .i64 a ∧ ts 4 = .int .i64 (i : Nat) ∧ m' = m) L ⟨0, 0, .mk ⟨rfl, Nat.zero_le _, rfl⟩, by simp [upd, hv], ttt, ttt, rfl⟩ ?_ ?_
    · rintro k ts m2 ⟨i, a, H, t0, t3, t4, hm2⟩
      subst m2
      by_cases hi : i < L
      · have lt : (i : Int) < (L : Int) := by omega
        have hiC : i < C.length := by have := H0.out; omega
        obtain ⟨x, hx⟩ : ∃ x, C.getD i default = x := ⟨_, rfl⟩
        have g1 := sm_at C pre post i hiC x hx
        have g2 := sm_lst C i hiC x hx
        have l1 := sm_len C pre post i hiC
        have w1 : IntKind.i64.wrap ((i : Int) + 1) = ((i + 1 : Nat) : Int) := by rw [wrap_i64 (by omega) (by omega)]; omega
        have hCt := blk_take C i hiC
        rw [hx, ← H.out.2.2] at hCt
        obtain ⟨c, hc⟩ : ∃ c, c = costS x := ⟨_, rfl⟩
        rw [← hc] at hCt
        have HX := Hid.mk (And.intro hCt hc)
        clear hx hCt hiC hc
        repeat' (first | exact tf0 ‹_› | exact tf1 ‹_› | exact False.elim ‹_› | (with_reducible refine Al.intro ?_; intro pb hpb; (try simp only [hupd_none'] at hpb); (repeat rcases hpb with ⟨⟨hpx, hpy⟩, hpb⟩)) | with_reducible refine need ?_ | ((with_reducible first | refine frk0 ?_ ?_ | refine frk1 ?_ ?_ | refine frk2 ?_ ?_ | refine frk3 ?_ ?_ | refine frk4 ?_ ?_ | refine frk5 ?_ ?_ | refine frk6 ?_ ?_ | refine frk7 ?_ ?_ | refine frk8 ?_ ?_ | refine frk9 ?_ ?_) <;> intro h <;> try (exfalso; omega)) | with_reducible refine quiet_and ?_ ?_ | with_reducible refine awp_drawnA mixed (by decide +kernel) ?_ | ((fail_if_success with_reducible refine stp ?_); simp -implicitDefEqProofs only [go_sem, Nat.reduceEqDiff, Nat.reduceAdd, Nat.reduceLT, Nat.reduceMul, Nat.reduceSub, Nat.reduceLeDiff, ↓reduceIte, reduceCtorEq, ↓String.reduceEq, String.reduceNe, Int.reduceToNat, Int.reduceLT, Int.reduceLE, Int.reduceGT, Int.reduceGE, Int.reduceEq, Int.reduceNe, Int.reduceBEq, Int.reduceBNe, Int.reduceAdd, Int.reduceSub, Int.reduceMul, Int.reduceNeg,  *]))
        all_goals (
          refine CallWP.to (cost_spec G x _) ?_
          rw [← HX.out.2]
          by_cases hq : a < c
          · repeat' (first | exact tf0 ‹_› | exact tf1 ‹_› | exact False.elim ‹_› | (with_reducible refine Al.intro ?_; intro pb hpb; (try simp only [hupd_none'] at hpb); (repeat rcases hpb with ⟨⟨hpx, hpy⟩, hpb⟩)) | with_reducible refine need ?_ | ((with_reducible first | refine frk0 ?_ ?_ | refine frk1 ?_ ?_ | refine frk2 ?_ ?_ | refine frk3 ?_ ?_ | refine frk4 ?_ ?_ | refine frk5 ?_ ?_ | refine frk6 ?_ ?_ | refine frk7 ?_ ?_ | refine frk8 ?_ ?_ | refine frk9 ?_ ?_) <;> intro h <;> try (exfalso; omega)) | with_reducible refine quiet_and ?_ ?_ | with_reducible refine awp_drawnA mixed (by decide +kernel) ?_ | ((fail_if_success with_reducible refine stp ?_); simp -implicitDefEqProofs only [go_sem, Nat.reduceEqDiff, Nat.reduceAdd, Nat.reduceLT, Nat.reduceMul, Nat.reduceSub, Nat.reduceLeDiff, ↓reduceIte, reduceCtorEq, ↓String.reduceEq, String.reduceNe, Int.reduceToNat, Int.reduceLT, Int.reduceLE, Int.reduceGT, Int.reduceGE, Int.reduceEq, Int.reduceNe, Int.reduceBEq, Int.reduceBNe, Int.reduceAdd, Int.reduceSub, Int.reduceMul, Int.reduceNeg,  *]))
            exact Again.intro ⟨L - (i + 1), by have := H.out; omega, _, Sub.refl _, i + 1, c, .mk ⟨rfl, by omega, by rw [HX.out.1, if_pos hq]⟩, (by first | (simp only [upd, put, Nat.reduceEqDiff, ↓reduceIte, t0, hv]; done) | (simp [upd, put, t0, hv]; done) | rfl | (simp [upd, put, t0, hv]; rfl)), ttt, ttt, rfl⟩
          · repeat' (first | exact tf0 ‹_› | exact tf1 ‹_› | exact False.elim ‹_› | (with_reducible refine Al.intro ?_; intro pb hpb; (try simp only [hupd_none'] at hpb); (repeat rcases hpb with ⟨⟨hpx, hpy⟩, hpb⟩)) | with_reducible refine need ?_ | ((with_reducible first | refine frk0 ?_ ?_ | refine frk1 ?_ ?_ | refine frk2 ?_ ?_ | refine frk3 ?_ ?_ | refine frk4 ?_ ?_ | refine frk5 ?_ ?_ | refine frk6 ?_ ?_ | refine frk7 ?_ ?_ | refine frk8 ?_ ?_ | refine frk9 ?_ ?_) <;> intro h <;> try (exfalso; omega)) | with_reducible refine quiet_and ?_ ?_ | with_reducible refine awp_drawnA mixed (by decide +kernel) ?_ | ((fail_if_success with_reducible refine stp ?_); simp -implicitDefEqProofs only [go_sem, Nat.reduceEqDiff, Nat.reduceAdd, Nat.reduceLT, Nat.reduceMul, Nat.reduceSub, Nat.reduceLeDiff, ↓reduceIte, reduceCtorEq, ↓String.reduceEq, String.reduceNe, Int.reduceToNat, Int.reduceLT, Int.reduceLE, Int.reduceGT, Int.reduceGE, Int.reduceEq, Int.reduceNe, Int.reduceBEq, Int.reduceBNe, Int.reduceAdd, Int.reduceSub, Int.reduceMul, Int.reduceNeg,  *]))
            exact Again.intro ⟨L - (i + 1), by have := H.out; omega, _, Sub.refl _, i + 1, a, .mk ⟨rfl, by omega, by rw [HX.out.1, if_neg hq]⟩, (by first | (simp only [upd, put, Nat.reduceEqDiff, ↓reduceIte, t0, hv]; done) | (simp [upd, put, t0, hv]; done) | rfl | (simp [upd, put, t0, hv]; rfl)), (by first | (simp only [upd, put, Nat.reduceEqDiff, ↓reduceIte, t3]; done) | (simp [upd, put, t3]; done) | rfl | (simp [upd, put, t3]; rfl)), ttt, rfl⟩)
      · have lt : ¬ (i : Int) < (L : Int) := by omega
        have e : a = blkF C := by have h := H.out.2.2; rwa [List.take_of_length_le (by have := H0.out; omega)] at h
        have HE := Hid.mk e
        clear e
        repeat' (first | exact tf0 ‹_› | exact tf1 ‹_› | exact False.elim ‹_› | (with_reducible refine Al.intro ?_; intro pb hpb; (try simp only [hupd_none'] at hpb); (repeat rcases hpb with ⟨⟨hpx, hpy⟩, hpb⟩)) | with_reducible refine need ?_ | ((with_reducible first | refine frk0 ?_ ?_ | refine frk1 ?_ ?_ | refine frk2 ?_ ?_ | refine frk3 ?_ ?_ | refine frk4 ?_ ?_ | refine frk5 ?_ ?_ | refine frk6 ?_ ?_ | refine frk7 ?_ ?_ | refine frk8 ?_ ?_ | refine frk9 ?_ ?_) <;> intro h <;> try (exfalso; omega)) | with_reducible refine quiet_and ?_ ?_ | with_reducible refine awp_drawnA mixed (by decide +kernel) ?_ | ((fail_if_success with_reducible refine stp ?_); simp -implicitDefEqProofs only [go_sem, Nat.reduceEqDiff, Nat.reduceAdd, Nat.reduceLT, Nat.reduceMul, Nat.reduceSub, Nat.reduceLeDiff, ↓reduceIte, reduceCtorEq, ↓String.reduceEq, String.reduceNe, Int.reduceToNat, Int.reduceLT, Int.reduceLE, Int.reduceGT, Int.reduceGE, Int.reduceEq, Int.reduceNe, Int.reduceBEq, Int.reduceBNe, Int.reduceAdd, Int.reduceSub, Int.reduceMul, Int.reduceNeg,  *]))
        exact Again.intro ⟨by rw [← HE.out]; exact ((by first | (simp only [upd, put, Nat.reduceEqDiff, ↓reduceIte, t3]; done) | (simp [upd, put, t3]; done) | rfl | (simp [upd, put, t3]; rfl))), rfl⟩
    · rintro ts m2 ⟨t3, hm2⟩
      subst m2
      repeat' (first | exact tf0 ‹_› | exact tf1 ‹_› | exact False.elim ‹_› | (with_reducible refine Al.intro ?_; intro pb hpb; (try simp only [hupd_none'] at hpb); (repeat rcases hpb with ⟨⟨hpx, hpy⟩, hpb⟩)) | with_reducible refine need ?_ | ((with_reducible first | refine frk0 ?_ ?_ | refine frk1 ?_ ?_ | refine frk2 ?_ ?_ | refine frk3 ?_ ?_ | refine frk4 ?_ ?_ | refine frk5 ?_ ?_ | refine frk6 ?_ ?_ | refine frk7 ?_ ?_ | refine frk8 ?_ ?_ | refine frk9 ?_ ?_) <;> intro h <;> try (exfalso; omega)) | with_reducible refine quiet_and ?_ ?_ | with_reducible refine awp_drawnA mixed (by decide +kernel) ?_ | ((fail_if_success with_reducible refine stp ?_); simp -implicitDefEqProofs only [go_sem, Nat.reduceEqDiff, Nat.reduceAdd, Nat.reduceLT, Nat.reduceMul, Nat.reduceSub, Nat.reduceLeDiff, ↓reduceIte, reduceCtorEq, ↓String.reduceEq, String.reduceNe, Int.reduceToNat, Int.reduceLT, Int.reduceLE, Int.reduceGT, Int.reduceGE, Int.reduceEq, Int.reduceNe, Int.reduceBEq, Int.reduceBNe, Int.reduceAdd, Int.reduceSub, Int.reduceMul, Int.reduceNeg,  *]))
      exact ⟨_, Sub.refl _, by rfl, rfl⟩)
/-- What one stream asks for. -/
def demS (s : Stm) (span n : Int) : Int := if s.2.2.1 = 1 ∧ 0 ≤ span + n - 1 - s.2.2.2.2.1 then ((span + n - 1 - s.2.2.2.2.1).tdiv s.2.2.2.1 + 1) * costS s else 0
/-- What all ask for. -/
def demF (C : List Stm) (span n : Int) : Int := (C.map fun s => demS s span n).sum
open Classical in
/-- What all ask for, if they can be. -/
noncomputable def demC (C : List Stm) (span n : Int) : Int := if (1 ≤ span ∧ span ≤ 65536) ∧ rightC C n then demF C span n else 0
theorem dem_take (C : List Stm) (span n : Int) (i : Nat) (h : i < C.length) : demF (C.take (i + 1)) span n = demF (C.take i) span n + demS (C.getD i default) span n := by
  unfold demF
  rw [take_one C i h, List.map_append, List.sum_append]; simp
theorem demS_in {s : Stm} (h : rightS s = 0) {span n : Int} (h1 : 1 ≤ span) (h2 : span ≤ 65536) (hn1 : 1 ≤ n) (hn : n ≤ 1073741824) : 0 ≤ demS s span n ∧ demS s span n ≤ 200000000000 ∧ (0 ≤ span + n - 1 - s.2.2.2.2.1 → 0 ≤ (span + n - 1 - s.2.2.2.2.1).tdiv s.2.2.2.1 ∧ (span + n - 1 - s.2.2.2.2.1).tdiv s.2.2.2.1 ≤ 1073807359) := by
  have hr := rightS_zero.1 h
  have hc := costS_in s
  have hq : 0 ≤ span + n - 1 - s.2.2.2.2.1 → 0 ≤ (span + n - 1 - s.2.2.2.2.1).tdiv s.2.2.2.1 ∧ (span + n - 1 - s.2.2.2.2.1).tdiv s.2.2.2.1 ≤ 1073807359 := by
    intro h0
    have e := slot_in h0 (show 1 ≤ s.2.2.2.1 by omega)
    omega
  refine ⟨?_, ?_, hq⟩
  · unfold demS
    split
    · rename_i h0
      have := hq h0.2
      exact Int.mul_nonneg (by omega) hc.1
    · omega
  · unfold demS
    split
    · rename_i h0
      have h3 := hq h0.2
      calc _ ≤ (1073807359 + 1) * costS s := Int.mul_le_mul_of_nonneg_right (by omega) hc.1
        _ ≤ (1073807359 + 1) * 160 := Int.mul_le_mul_of_nonneg_left hc.2 (by omega)
        _ ≤ 200000000000 := by omega
    · omega
theorem demF_in {C : List Stm} (h : ∀ s ∈ C, rightS s = 0) {span n : Int} (h1 : 1 ≤ span) (h2 : span ≤ 65536) (hn1 : 1 ≤ n) (hn : n ≤ 1073741824) : 0 ≤ demF C span n ∧ demF C span n ≤ 200000000000 * (C.length : Int) := by
  induction C with
  | nil => simp [demF]
  | cons s t ih =>
    have a := demS_in (h s (by simp)) h1 h2 hn1 hn
    have b := ih fun x hx => h x (List.mem_cons_of_mem _ hx)
    have e : demF (s :: t) span n = demS s span n + demF t span n := by unfold demF; rw [List.map_cons, List.sum_cons]
    rw [e, List.length_cons]
    omega
end Go.Proofs.Ytmifapnmlhchlaa
