/- Streams: what they ask for together. Streams: what they ask for together, and whether it is too much. A few streams that can be, from any. -/
import Derived.Test.YtdckcophbmnjjaaGreatDoorX3
set_option linter.all false
namespace Go.Proofs.YtdckcophbmnjjaaGreatDoor
open Go Go.Proofs.YtdckcophbmnjjaaGreatDoor.Ab
open Go.Proofs (Tryz.prog)
set_option maxRecDepth 100000
/-- The longest frame. -/
def blkF (C : List Stm) : Int := C.foldl (fun a s => if a < costS s then costS s else a) 0
/-- What one stream asks for. -/
def demS (s : Stm) (span n : Int) : Int := if s.2.2.1 = 1 ∧ 0 ≤ span + n - 1 - s.2.2.2.2.1 then ((span + n - 1 - s.2.2.2.2.1).tdiv s.2.2.2.1 + 1) * costS s else 0
/-- What all ask for. -/
def demF (C : List Stm) (span n : Int) : Int := (C.map fun s => demS s span n).sum
open Classical in
/-- What all ask for, if they can be. -/
noncomputable def demC (C : List Stm) (span n : Int) : Int := if (1 ≤ span ∧ span ≤ 65536) ∧ rightC C n then demF C span n else 0
end Go.Proofs.YtdckcophbmnjjaaGreatDoor
namespace Go.Proofs.YtdckcophbmnjjaaGreatDoor
open Go Go.Proofs.YtdckcophbmnjjaaGreatDoor.Ab
open Go.Proofs (Tryz.prog)
set_option maxRecDepth 100000
/-- Do streams ask for too much within a span? -/
def Fails (C : List Stm) (span n : Int) : Prop := 0 < demF C span n ∧ span < blkF C + demF C span n
/-- Whether streams never ask for too much, and where first they do. -/
def PassR (C : List Stm) (n h a : Int) (ok : Bool) : Prop :=
  (¬ (rightC C n ∧ 1 ≤ h ∧ h ≤ 65536) ∧ a = 0 ∧ ok = false) ∨
  (rightC C n ∧ (1 ≤ h ∧ h ≤ 65536) ∧ ((a = 0 ∧ ok = true ∧ ∀ s, 1 ≤ s → s ≤ h → ¬ Fails C s n) ∨ ((1 ≤ a ∧ a ≤ h) ∧ ok = false ∧ Fails C a n ∧ ∀ s, 1 ≤ s → s < a → ¬ Fails C s n)))
end Go.Proofs.YtdckcophbmnjjaaGreatDoor
namespace Go.Proofs.YtdckcophbmnjjaaGreatDoor
open Go Go.Proofs.YtdckcophbmnjjaaGreatDoor.Ab
open Go.Proofs (Tryz.prog)
set_option maxRecDepth 100000
theorem part25_spec (G : Nat → AVal) (n b : Int) (hb : 0 < b) (hb2 : b < 1000000) : Ans G 39 [.int .i64 n, .int .i64 b] (.int .i64 (partF n b)) := by
  intro m
  have h0 : b ≠ 0 := by omega
  have hp := partF_in n b hb
  by_cases hn : n < 0
  · have e : Hid (partF n b = 0) := .mk (by unfold partF; rw [if_pos hn])
    clear hp
    refine callWP_body Tryz.func39 rfl (N := 10) rfl (rs := [.tmp 4]) rfl en_39 (of_decide_eq_true rfl) ?_
    repeat' (first | exact tf0 ‹_› | exact tf1 ‹_› | exact False.elim ‹_› | (with_reducible refine Al.intro ?_; intro pb hpb; (try simp only [hupd_none'] at hpb); (repeat rcases hpb with ⟨⟨hpx, hpy⟩, hpb⟩)) | with_reducible refine need ?_ | ((with_reducible first | apply frk0 | apply frk1 | apply frk2 | apply frk3 | apply frk4 | apply frk5 | apply frk6 | apply frk7 | apply frk8 | apply frk9) <;> intro h <;> try (exfalso; omega)) | with_reducible refine quiet_and ?_ ?_ | with_reducible refine awp_drawnA mixed (by decide +kernel) ?_ | ((fail_if_success with_reducible refine stp ?_); simp -implicitDefEqProofs only [go_sem, Nat.reduceEqDiff, Nat.reduceAdd, Nat.reduceLT, Nat.reduceMul, Nat.reduceSub, Nat.reduceLeDiff, ↓reduceIte, reduceCtorEq, ↓String.reduceEq, String.reduceNe, Int.reduceToNat, Int.reduceLT, Int.reduceLE, Int.reduceGT, Int.reduceGE, Int.reduceEq, Int.reduceNe, Int.reduceBEq, Int.reduceBNe, Int.reduceAdd, Int.reduceSub, Int.reduceMul, Int.reduceNeg,  *]))
    refine ⟨m, (by (repeat refine Sub.fresh ?_ (by assumption)); exact Sub.refl m), ?_, rfl⟩
    rw [e.out]
  · have e : Hid (partF n b = n.tmod b) := .mk (by unfold partF; rw [if_neg hn])
    clear hp
    refine callWP_body Tryz.func39 rfl (N := 10) rfl (rs := [.tmp 4]) rfl en_39 (of_decide_eq_true rfl) ?_
    repeat' (first | exact tf0 ‹_› | exact tf1 ‹_› | exact False.elim ‹_› | (with_reducible refine Al.intro ?_; intro pb hpb; (try simp only [hupd_none'] at hpb); (repeat rcases hpb with ⟨⟨hpx, hpy⟩, hpb⟩)) | with_reducible refine need ?_ | ((with_reducible first | apply frk0 | apply frk1 | apply frk2 | apply frk3 | apply frk4 | apply frk5 | apply frk6 | apply frk7 | apply frk8 | apply frk9) <;> intro h <;> try (exfalso; omega)) | with_reducible refine quiet_and ?_ ?_ | with_reducible refine awp_drawnA mixed (by decide +kernel) ?_ | ((fail_if_success with_reducible refine stp ?_); simp -implicitDefEqProofs only [go_sem, Nat.reduceEqDiff, Nat.reduceAdd, Nat.reduceLT, Nat.reduceMul, Nat.reduceSub, Nat.reduceLeDiff, ↓reduceIte, reduceCtorEq, ↓String.reduceEq, String.reduceNe, Int.reduceToNat, Int.reduceLT, Int.reduceLE, Int.reduceGT, Int.reduceGE, Int.reduceEq, Int.reduceNe, Int.reduceBEq, Int.reduceBNe, Int.reduceAdd, Int.reduceSub, Int.reduceMul, Int.reduceNeg,  *]))
    refine ⟨m, (by (repeat refine Sub.fresh ?_ (by assumption)); exact Sub.refl m), ?_, rfl⟩
    rw [e.out]
def streamF (s : Stm) (id : Int) : Stm := (id, partF s.2.1 4, partF s.2.2.1 3 + 1, partF s.2.2.2.1 4000 + 200, partF s.2.2.2.2.1 (partF s.2.2.2.1 4000 + 101) + 100, partF s.2.2.2.2.2.1 256, partF s.2.2.2.2.2.2 9)
theorem streamF_right (s : Stm) (id : Int) (h1 : 0 ≤ id) (h2 : id ≤ 2047) : rightS (streamF s id) = 0 := by
  rw [rightS_zero]
  have a1 := partF_in s.2.1 4 (by decide)
  have a2 := partF_in s.2.2.1 3 (by decide)
  have a3 := partF_in s.2.2.2.1 4000 (by decide)
  have a4 := partF_in s.2.2.2.2.1 (partF s.2.2.2.1 4000 + 101) (by omega)
  have a5 := partF_in s.2.2.2.2.2.1 256 (by decide)
  have a6 := partF_in s.2.2.2.2.2.2 9 (by decide)
  unfold streamF
  simp only
  omega
set_option maxHeartbeats 1000000 in
theorem stream_spec (G : Nat → AVal) (s : Stm) (id : Int) : Ans G 15 [encS s, .int .i64 id] (encS (streamF s id)) := by
  intro m
  have a2 := partF_in s.2.2.1 3 (by decide)
  have a3 := partF_in s.2.2.2.1 4000 (by decide)
  have a4 := partF_in s.2.2.2.2.1 (partF s.2.2.2.1 4000 + 101) (by omega)
  obtain ⟨p2, e2⟩ : ∃ x, x = partF s.2.2.1 3 := ⟨_, rfl⟩
  obtain ⟨p3, e3⟩ : ∃ x, x = partF s.2.2.2.1 4000 := ⟨_, rfl⟩
  rw [← e3] at a4 a3
  rw [← e2] at a2
  obtain ⟨p4, e4⟩ : ∃ x, x = partF s.2.2.2.2.1 (p3 + 101) := ⟨_, rfl⟩
  rw [← e4] at a4
  have w1 : IntKind.i64.wrap (p2 + 1) = p2 + 1 := wrap_i64 (by omega) (by omega)
  have w2 : IntKind.i64.wrap (p3 + 200) = p3 + 200 := wrap_i64 (by omega) (by omega)
  have w3 : IntKind.i64.wrap (p3 + 200 - 99) = p3 + 101 := by rw [wrap_i64 (by omega) (by omega)]; omega
  have w4 : IntKind.i64.wrap (p4 + 100) = p4 + 100 := wrap_i64 (by omega) (by omega)
  have HP := Hid.mk (And.intro e2 (And.intro e3 (And.intro e4 (And.intro a2 (And.intro a3 a4)))))
  clear e2 e3 e4 a2 a3 a4
  refine callWP_body Tryz.func15 rfl (N := 38) rfl (rs := [.cell 4 48]) rfl en_15 (of_decide_eq_true rfl) ?_
  repeat' (first | exact tf0 ‹_› | exact tf1 ‹_› | exact False.elim ‹_› | (with_reducible refine Al.intro ?_; intro pb hpb; (try simp only [hupd_none'] at hpb); (repeat rcases hpb with ⟨⟨hpx, hpy⟩, hpb⟩)) | with_reducible refine need ?_ | ((with_reducible first | apply frk0 | apply frk1 | apply frk2 | apply frk3 | apply frk4 | apply frk5 | apply frk6 | apply frk7 | apply frk8 | apply frk9) <;> intro h <;> try (exfalso; omega)) | with_reducible refine quiet_and ?_ ?_ | with_reducible refine awp_drawnA mixed (by decide +kernel) ?_ | ((fail_if_success with_reducible refine stp ?_); simp -implicitDefEqProofs only [go_sem, Nat.reduceEqDiff, Nat.reduceAdd, Nat.reduceLT, Nat.reduceMul, Nat.reduceSub, Nat.reduceLeDiff, ↓reduceIte, reduceCtorEq, ↓String.reduceEq, String.reduceNe, Int.reduceToNat, Int.reduceLT, Int.reduceLE, Int.reduceGT, Int.reduceGE, Int.reduceEq, Int.reduceNe, Int.reduceBEq, Int.reduceBNe, Int.reduceAdd, Int.reduceSub, Int.reduceMul, Int.reduceNeg,  encS, encSc, *]))
  refine CallWP.to (part25_spec G s.2.1 4 (by decide) (by decide) _) ?_
  repeat' (first | exact tf0 ‹_› | exact tf1 ‹_› | exact False.elim ‹_› | (with_reducible refine Al.intro ?_; intro pb hpb; (try simp only [hupd_none'] at hpb); (repeat rcases hpb with ⟨⟨hpx, hpy⟩, hpb⟩)) | with_reducible refine need ?_ | ((with_reducible first | apply frk0 | apply frk1 | apply frk2 | apply frk3 | apply frk4 | apply frk5 | apply frk6 | apply frk7 | apply frk8 | apply frk9) <;> intro h <;> try (exfalso; omega)) | with_reducible refine quiet_and ?_ ?_ | with_reducible refine awp_drawnA mixed (by decide +kernel) ?_ | ((fail_if_success with_reducible refine stp ?_); simp -implicitDefEqProofs only [go_sem, Nat.reduceEqDiff, Nat.reduceAdd, Nat.reduceLT, Nat.reduceMul, Nat.reduceSub, Nat.reduceLeDiff, ↓reduceIte, reduceCtorEq, ↓String.reduceEq, String.reduceNe, Int.reduceToNat, Int.reduceLT, Int.reduceLE, Int.reduceGT, Int.reduceGE, Int.reduceEq, Int.reduceNe, Int.reduceBEq, Int.reduceBNe, Int.reduceAdd, Int.reduceSub, Int.reduceMul, Int.reduceNeg,  *]))
  refine CallWP.to (part25_spec G s.2.2.1 3 (by decide) (by decide) _) ?_
  rw [← HP.out.1]
  repeat' (first | exact tf0 ‹_› | exact tf1 ‹_› | exact False.elim ‹_› | (with_reducible refine Al.intro ?_; intro pb hpb; (try simp only [hupd_none'] at hpb); (repeat rcases hpb with ⟨⟨hpx, hpy⟩, hpb⟩)) | with_reducible refine need ?_ | ((with_reducible first | apply frk0 | apply frk1 | apply frk2 | apply frk3 | apply frk4 | apply frk5 | apply frk6 | apply frk7 | apply frk8 | apply frk9) <;> intro h <;> try (exfalso; omega)) | with_reducible refine quiet_and ?_ ?_ | with_reducible refine awp_drawnA mixed (by decide +kernel) ?_ | ((fail_if_success with_reducible refine stp ?_); simp -implicitDefEqProofs only [go_sem, Nat.reduceEqDiff, Nat.reduceAdd, Nat.reduceLT, Nat.reduceMul, Nat.reduceSub, Nat.reduceLeDiff, ↓reduceIte, reduceCtorEq, ↓String.reduceEq, String.reduceNe, Int.reduceToNat, Int.reduceLT, Int.reduceLE, Int.reduceGT, Int.reduceGE, Int.reduceEq, Int.reduceNe, Int.reduceBEq, Int.reduceBNe, Int.reduceAdd, Int.reduceSub, Int.reduceMul, Int.reduceNeg,  *]))
  refine CallWP.to (part25_spec G s.2.2.2.1 4000 (by decide) (by decide) _) ?_
  rw [← HP.out.2.1]
  repeat' (first | exact tf0 ‹_› | exact tf1 ‹_› | exact False.elim ‹_› | (with_reducible refine Al.intro ?_; intro pb hpb; (try simp only [hupd_none'] at hpb); (repeat rcases hpb with ⟨⟨hpx, hpy⟩, hpb⟩)) | with_reducible refine need ?_ | ((with_reducible first | apply frk0 | apply frk1 | apply frk2 | apply frk3 | apply frk4 | apply frk5 | apply frk6 | apply frk7 | apply frk8 | apply frk9) <;> intro h <;> try (exfalso; omega)) | with_reducible refine quiet_and ?_ ?_ | with_reducible refine awp_drawnA mixed (by decide +kernel) ?_ | ((fail_if_success with_reducible refine stp ?_); simp -implicitDefEqProofs only [go_sem, Nat.reduceEqDiff, Nat.reduceAdd, Nat.reduceLT, Nat.reduceMul, Nat.reduceSub, Nat.reduceLeDiff, ↓reduceIte, reduceCtorEq, ↓String.reduceEq, String.reduceNe, Int.reduceToNat, Int.reduceLT, Int.reduceLE, Int.reduceGT, Int.reduceGE, Int.reduceEq, Int.reduceNe, Int.reduceBEq, Int.reduceBNe, Int.reduceAdd, Int.reduceSub, Int.reduceMul, Int.reduceNeg,  *]))
  refine CallWP.to (part25_spec G s.2.2.2.2.1 (p3 + 101) (by have := HP.out; omega) (by have := HP.out; omega) _) ?_
  rw [← HP.out.2.2.1]
  repeat' (first | exact tf0 ‹_› | exact tf1 ‹_› | exact False.elim ‹_› | (with_reducible refine Al.intro ?_; intro pb hpb; (try simp only [hupd_none'] at hpb); (repeat rcases hpb with ⟨⟨hpx, hpy⟩, hpb⟩)) | with_reducible refine need ?_ | ((with_reducible first | apply frk0 | apply frk1 | apply frk2 | apply frk3 | apply frk4 | apply frk5 | apply frk6 | apply frk7 | apply frk8 | apply frk9) <;> intro h <;> try (exfalso; omega)) | with_reducible refine quiet_and ?_ ?_ | with_reducible refine awp_drawnA mixed (by decide +kernel) ?_ | ((fail_if_success with_reducible refine stp ?_); simp -implicitDefEqProofs only [go_sem, Nat.reduceEqDiff, Nat.reduceAdd, Nat.reduceLT, Nat.reduceMul, Nat.reduceSub, Nat.reduceLeDiff, ↓reduceIte, reduceCtorEq, ↓String.reduceEq, String.reduceNe, Int.reduceToNat, Int.reduceLT, Int.reduceLE, Int.reduceGT, Int.reduceGE, Int.reduceEq, Int.reduceNe, Int.reduceBEq, Int.reduceBNe, Int.reduceAdd, Int.reduceSub, Int.reduceMul, Int.reduceNeg,  *]))
  refine CallWP.to (part25_spec G s.2.2.2.2.2.1 256 (by decide) (by decide) _) ?_
  repeat' (first | exact tf0 ‹_› | exact tf1 ‹_› | exact False.elim ‹_› | (with_reducible refine Al.intro ?_; intro pb hpb; (try simp only [hupd_none'] at hpb); (repeat rcases hpb with ⟨⟨hpx, hpy⟩, hpb⟩)) | with_reducible refine need ?_ | ((with_reducible first | apply frk0 | apply frk1 | apply frk2 | apply frk3 | apply frk4 | apply frk5 | apply frk6 | apply frk7 | apply frk8 | apply frk9) <;> intro h <;> try (exfalso; omega)) | with_reducible refine quiet_and ?_ ?_ | with_reducible refine awp_drawnA mixed (by decide +kernel) ?_ | ((fail_if_success with_reducible refine stp ?_); simp -implicitDefEqProofs only [go_sem, Nat.reduceEqDiff, Nat.reduceAdd, Nat.reduceLT, Nat.reduceMul, Nat.reduceSub, Nat.reduceLeDiff, ↓reduceIte, reduceCtorEq, ↓String.reduceEq, String.reduceNe, Int.reduceToNat, Int.reduceLT, Int.reduceLE, Int.reduceGT, Int.reduceGE, Int.reduceEq, Int.reduceNe, Int.reduceBEq, Int.reduceBNe, Int.reduceAdd, Int.reduceSub, Int.reduceMul, Int.reduceNeg,  *]))
  refine CallWP.to (part25_spec G s.2.2.2.2.2.2 9 (by decide) (by decide) _) ?_
  repeat' (first | exact tf0 ‹_› | exact tf1 ‹_› | exact False.elim ‹_› | (with_reducible refine Al.intro ?_; intro pb hpb; (try simp only [hupd_none'] at hpb); (repeat rcases hpb with ⟨⟨hpx, hpy⟩, hpb⟩)) | with_reducible refine need ?_ | ((with_reducible first | apply frk0 | apply frk1 | apply frk2 | apply frk3 | apply frk4 | apply frk5 | apply frk6 | apply frk7 | apply frk8 | apply frk9) <;> intro h <;> try (exfalso; omega)) | with_reducible refine quiet_and ?_ ?_ | with_reducible refine awp_drawnA mixed (by decide +kernel) ?_ | ((fail_if_success with_reducible refine stp ?_); simp -implicitDefEqProofs only [go_sem, Nat.reduceEqDiff, Nat.reduceAdd, Nat.reduceLT, Nat.reduceMul, Nat.reduceSub, Nat.reduceLeDiff, ↓reduceIte, reduceCtorEq, ↓String.reduceEq, String.reduceNe, Int.reduceToNat, Int.reduceLT, Int.reduceLE, Int.reduceGT, Int.reduceGE, Int.reduceEq, Int.reduceNe, Int.reduceBEq, Int.reduceBNe, Int.reduceAdd, Int.reduceSub, Int.reduceMul, Int.reduceNeg,  *]))
  refine ⟨m, (by (repeat refine Sub.fresh ?_ (by assumption)); exact Sub.refl m), ?_, rfl⟩
  obtain ⟨e2, e3, e4, -⟩ := HP.out
  unfold encS streamF
  rw [← e3, ← e2, ← e4]
def fewF (C : List Stm) : List Stm := (C.take 6).zipIdx.map fun p => streamF p.1 (p.2 : Int)
def fewN (C : List Stm) (i : Nat) : List Stm := (C.take i).zipIdx.map fun p => streamF p.1 (p.2 : Int)
theorem few_step (C : List Stm) (i : Nat) (h : i < C.length) : fewN C (i + 1) = fewN C i ++ [streamF (C.getD i default) (i : Int)] := by
  unfold fewN
  rw [take_one C i h, List.zipIdx_append, List.map_append, List.length_take, Nat.min_eq_left (Nat.le_of_lt h)]
  simp
theorem few_len (C : List Stm) (i : Nat) : (fewN C i).length = min i C.length := by
  unfold fewN; simp
theorem few_right (C : List Stm) (i : Nat) (hi : i ≤ 64) : ∀ s ∈ fewN C i, rightS s = 0 := by
  intro s hs
  unfold fewN at hs
  obtain ⟨p, hp, rfl⟩ := List.mem_map.1 hs
  have := List.mem_zipIdx hp
  refine streamF_right _ _ (by omega) ?_
  have h := this.2.1
  rw [List.length_take] at h
  omega
set_option maxHeartbeats 1000000 in
theorem few_spec (G : Nat → AVal) (C : List Stm) (hll : C.length < 9223372036854775808) (m : Heap) (K : AVal → Heap → Prop)
    (hK : ∀ (v : AVal) (m' : Heap), SlM encSc 7 (fewN C 6) v m' → Sub m m' → (∀ b, bOf v = some b → m b = none) → K v m') : CallWP Tryz.prog G 4 [.list 7 (C.map encS)] m K := by
  have HK := Hid.mk hK
  clear hK
  have HLL := Hid.mk hll
  clear hll
  refine callWP_body Tryz.func4 rfl (N := 25) rfl (rs := [.tmp 2]) rfl en_4 (of_decide_eq_true rfl) ?_
  repeat' (first | exact tf0 ‹_› | exact tf1 ‹_› | exact False.elim ‹_› | (with_reducible refine Al.intro ?_; intro pb hpb; (try simp only [hupd_none'] at hpb); (repeat rcases hpb with ⟨⟨hpx, hpy⟩, hpb⟩)) | with_reducible refine need ?_ | ((with_reducible first | apply frk0 | apply frk1 | apply frk2 | apply frk3 | apply frk4 | apply frk5 | apply frk6 | apply frk7 | apply frk8 | apply frk9) <;> intro h <;> try (exfalso; omega)) | with_reducible refine quiet_and ?_ ?_ | with_reducible refine awp_drawnA mixed (by decide +kernel) ?_ | ((fail_if_success with_reducible refine stp ?_); simp -implicitDefEqProofs only [go_sem, Nat.reduceEqDiff, Nat.reduceAdd, Nat.reduceLT, Nat.reduceMul, Nat.reduceSub, Nat.reduceLeDiff, ↓reduceIte, reduceCtorEq, ↓String.reduceEq, String.reduceNe, Int.reduceToNat, Int.reduceLT, Int.reduceLE, Int.reduceGT, Int.reduceGE, Int.reduceEq, Int.reduceNe, Int.reduceBEq, Int.reduceBNe, Int.reduceAdd, Int.reduceSub, Int.reduceMul, Int.reduceNeg,  *]))
  refine awp_loopP 0 (fun ts m' => ∃ v : AVal, Hid (SlM encSc 7 (fewN C 6) v m' ∧ Sub m m' ∧ ∀ x, bOf v = some x → m x = none) ∧ ts 3 = v)
    (fun k ts m' => ∃ (v : AVal) (i : Nat), Hid (k = 6 - i ∧ i ≤ 6 ∧ i ≤ C.length ∧ SlM encSc 7 (fewN C i) v m' ∧ Sub m m' ∧ ∀ x, bOf v = some x → m x = none) ∧ ts 0 = .list 7 (C.map encS) ∧ ts 3 = v ∧ ts 4 = .int .i64 (i : Nat)) 6
    ⟨.nils, 0, .mk ⟨rfl, Nat.zero_le _, Nat.zero_le _, .inl ⟨rfl, rfl⟩, Sub.refl _, by simp [bOf]⟩, ttt, ttt, ttt⟩ ?_ ?_
  · rintro k ts m1 ⟨v, i, H, t0, t3, t4⟩
    have ll : (C.map encS).length = C.length := List.length_map _
    by_cases hi : i < C.length
    · have lt : (i : Int) < (C.length : Int) := by omega
      by_cases hi2 : i < 6
      · have lt2 : (i : Int) < 6 := by omega
        obtain ⟨x, hx⟩ : ∃ x, C.getD i default = x := ⟨_, rfl⟩
        have g1 := sm_lst C i hi x hx
        have w1 : IntKind.i64.wrap ((i : Int) + 1) = ((i + 1 : Nat) : Int) := by rw [wrap_i64 (by omega) (by omega)]; omega
        have HX := Hid.mk hx
        clear hx
        repeat' (first | exact tf0 ‹_› | exact tf1 ‹_› | exact False.elim ‹_› | (with_reducible refine Al.intro ?_; intro pb hpb; (try simp only [hupd_none'] at hpb); (repeat rcases hpb with ⟨⟨hpx, hpy⟩, hpb⟩)) | with_reducible refine need ?_ | ((with_reducible first | apply frk0 | apply frk1 | apply frk2 | apply frk3 | apply frk4 | apply frk5 | apply frk6 | apply frk7 | apply frk8 | apply frk9) <;> intro h <;> try (exfalso; omega)) | with_reducible refine quiet_and ?_ ?_ | with_reducible refine awp_drawnA mixed (by decide +kernel) ?_ | ((fail_if_success with_reducible refine stp ?_); simp -implicitDefEqProofs only [go_sem, Nat.reduceEqDiff, Nat.reduceAdd, Nat.reduceLT, Nat.reduceMul, Nat.reduceSub, Nat.reduceLeDiff, ↓reduceIte, reduceCtorEq, ↓String.reduceEq, String.reduceNe, Int.reduceToNat, Int.reduceLT, Int.reduceLE, Int.reduceGT, Int.reduceGE, Int.reduceEq, Int.reduceNe, Int.reduceBEq, Int.reduceBNe, Int.reduceAdd, Int.reduceSub, Int.reduceMul, Int.reduceNeg,  *]))
        refine CallWP.to (stream_spec G x i _) ?_
        repeat' (first | exact tf0 ‹_› | exact tf1 ‹_› | exact False.elim ‹_› | (with_reducible refine Al.intro ?_; intro pb hpb; (try simp only [hupd_none'] at hpb); (repeat rcases hpb with ⟨⟨hpx, hpy⟩, hpb⟩)) | with_reducible refine need ?_ | ((with_reducible first | apply frk0 | apply frk1 | apply frk2 | apply frk3 | apply frk4 | apply frk5 | apply frk6 | apply frk7 | apply frk8 | apply frk9) <;> intro h <;> try (exfalso; omega)) | with_reducible refine quiet_and ?_ ?_ | with_reducible refine awp_drawnA mixed (by decide +kernel) ?_ | ((fail_if_success with_reducible refine stp ?_); simp -implicitDefEqProofs only [go_sem, Nat.reduceEqDiff, Nat.reduceAdd, Nat.reduceLT, Nat.reduceMul, Nat.reduceSub, Nat.reduceLeDiff, ↓reduceIte, reduceCtorEq, ↓String.reduceEq, String.reduceNe, Int.reduceToNat, Int.reduceLT, Int.reduceLE, Int.reduceGT, Int.reduceGE, Int.reduceEq, Int.reduceNe, Int.reduceBEq, Int.reduceBNe, Int.reduceAdd, Int.reduceSub, Int.reduceMul, Int.reduceNeg,  encS, encSc, *]))
        rename Nat => q
        rename m1 q = none => hq
        refine app1 (enc := encSc) (sz := 7) (C := fewN C i) (x := streamF x i) Tryz.underlying22 tk_48 eb_48 zl_48 (by decide) (by rw [Tryz.underlying22]; rfl) (by unfold isInt; rw [Tryz.underlying22]) encSc_len rfl ⟨7, by rw [hupd_at, if_pos rfl]⟩ (H.out.2.2.2.1.fresh hq) (by rw [few_len]; omega) (fun v2 m2 h1 h2 => ?_)
        obtain ⟨k1, k2⟩ := h2.sub (mb := m) (subTrans H.out.2.2.2.2.1 (by exact (by (repeat refine Sub.fresh ?_ (by assumption)); exact Sub.refl _))) H.out.2.2.2.2.2
        have HN := Hid.mk (And.intro h1 (And.intro k1 k2))
        clear h1 h2 k1 k2
        repeat' (first | exact tf0 ‹_› | exact tf1 ‹_› | exact False.elim ‹_› | (with_reducible refine Al.intro ?_; intro pb hpb; (try simp only [hupd_none'] at hpb); (repeat rcases hpb with ⟨⟨hpx, hpy⟩, hpb⟩)) | with_reducible refine need ?_ | ((with_reducible first | apply frk0 | apply frk1 | apply frk2 | apply frk3 | apply frk4 | apply frk5 | apply frk6 | apply frk7 | apply frk8 | apply frk9) <;> intro h <;> try (exfalso; omega)) | with_reducible refine quiet_and ?_ ?_ | with_reducible refine awp_drawnA mixed (by decide +kernel) ?_ | ((fail_if_success with_reducible refine stp ?_); simp -implicitDefEqProofs only [go_sem, Nat.reduceEqDiff, Nat.reduceAdd, Nat.reduceLT, Nat.reduceMul, Nat.reduceSub, Nat.reduceLeDiff, ↓reduceIte, reduceCtorEq, ↓String.reduceEq, String.reduceNe, Int.reduceToNat, Int.reduceLT, Int.reduceLE, Int.reduceGT, Int.reduceGE, Int.reduceEq, Int.reduceNe, Int.reduceBEq, Int.reduceBNe, Int.reduceAdd, Int.reduceSub, Int.reduceMul, Int.reduceNeg,  anil, *]))
        exact Again.intro ⟨6 - (i + 1), by have := H.out; omega, _, Sub.refl _, v2, i + 1, .mk ⟨rfl, by omega, by omega, by rw [few_step _ _ hi, HX.out]; exact HN.out.1, HN.out.2.1, HN.out.2.2⟩, (by first | (simp only [upd, put, Nat.reduceEqDiff, ↓reduceIte, t0]; done) | (simp [upd, put, t0]; done) | rfl | (simp [upd, put, t0]; rfl)), ttt, ttt⟩
      · have lt2 : ¬ (i : Int) < 6 := by omega
        repeat' (first | exact tf0 ‹_› | exact tf1 ‹_› | exact False.elim ‹_› | (with_reducible refine Al.intro ?_; intro pb hpb; (try simp only [hupd_none'] at hpb); (repeat rcases hpb with ⟨⟨hpx, hpy⟩, hpb⟩)) | with_reducible refine need ?_ | ((with_reducible first | apply frk0 | apply frk1 | apply frk2 | apply frk3 | apply frk4 | apply frk5 | apply frk6 | apply frk7 | apply frk8 | apply frk9) <;> intro h <;> try (exfalso; omega)) | with_reducible refine quiet_and ?_ ?_ | with_reducible refine awp_drawnA mixed (by decide +kernel) ?_ | ((fail_if_success with_reducible refine stp ?_); simp -implicitDefEqProofs only [go_sem, Nat.reduceEqDiff, Nat.reduceAdd, Nat.reduceLT, Nat.reduceMul, Nat.reduceSub, Nat.reduceLeDiff, ↓reduceIte, reduceCtorEq, ↓String.reduceEq, String.reduceNe, Int.reduceToNat, Int.reduceLT, Int.reduceLE, Int.reduceGT, Int.reduceGE, Int.reduceEq, Int.reduceNe, Int.reduceBEq, Int.reduceBNe, Int.reduceAdd, Int.reduceSub, Int.reduceMul, Int.reduceNeg,  *]))
        exact Again.intro ⟨v, .mk ⟨by have h := H.out.2.2.2.1; rwa [show i = 6 by have := H.out; omega] at h, H.out.2.2.2.2⟩, (by first | (simp only [upd, put, Nat.reduceEqDiff, ↓reduceIte, t3]; done) | (simp [upd, put, t3]; done) | rfl | (simp [upd, put, t3]; rfl))⟩
    · have lt : ¬ (i : Int) < (C.length : Int) := by omega
      repeat' (first | exact tf0 ‹_› | exact tf1 ‹_› | exact False.elim ‹_› | (with_reducible refine Al.intro ?_; intro pb hpb; (try simp only [hupd_none'] at hpb); (repeat rcases hpb with ⟨⟨hpx, hpy⟩, hpb⟩)) | with_reducible refine need ?_ | ((with_reducible first | apply frk0 | apply frk1 | apply frk2 | apply frk3 | apply frk4 | apply frk5 | apply frk6 | apply frk7 | apply frk8 | apply frk9) <;> intro h <;> try (exfalso; omega)) | with_reducible refine quiet_and ?_ ?_ | with_reducible refine awp_drawnA mixed (by decide +kernel) ?_ | ((fail_if_success with_reducible refine stp ?_); simp -implicitDefEqProofs only [go_sem, Nat.reduceEqDiff, Nat.reduceAdd, Nat.reduceLT, Nat.reduceMul, Nat.reduceSub, Nat.reduceLeDiff, ↓reduceIte, reduceCtorEq, ↓String.reduceEq, String.reduceNe, Int.reduceToNat, Int.reduceLT, Int.reduceLE, Int.reduceGT, Int.reduceGE, Int.reduceEq, Int.reduceNe, Int.reduceBEq, Int.reduceBNe, Int.reduceAdd, Int.reduceSub, Int.reduceMul, Int.reduceNeg,  *]))
      exact Again.intro ⟨v, .mk ⟨by have h := H.out.2.2.2.1; unfold fewN at h ⊢; rw [List.take_of_length_le (by omega)] at h; rwa [List.take_of_length_le (by have := H.out; omega)], H.out.2.2.2.2⟩, (by first | (simp only [upd, put, Nat.reduceEqDiff, ↓reduceIte, t3]; done) | (simp [upd, put, t3]; done) | rfl | (simp [upd, put, t3]; rfl))⟩
  · rintro ts m1 ⟨v, H, t3⟩
    repeat' (first | exact tf0 ‹_› | exact tf1 ‹_› | exact False.elim ‹_› | (with_reducible refine Al.intro ?_; intro pb hpb; (try simp only [hupd_none'] at hpb); (repeat rcases hpb with ⟨⟨hpx, hpy⟩, hpb⟩)) | with_reducible refine need ?_ | ((with_reducible first | apply frk0 | apply frk1 | apply frk2 | apply frk3 | apply frk4 | apply frk5 | apply frk6 | apply frk7 | apply frk8 | apply frk9) <;> intro h <;> try (exfalso; omega)) | with_reducible refine quiet_and ?_ ?_ | with_reducible refine awp_drawnA mixed (by decide +kernel) ?_ | ((fail_if_success with_reducible refine stp ?_); simp -implicitDefEqProofs only [go_sem, Nat.reduceEqDiff, Nat.reduceAdd, Nat.reduceLT, Nat.reduceMul, Nat.reduceSub, Nat.reduceLeDiff, ↓reduceIte, reduceCtorEq, ↓String.reduceEq, String.reduceNe, Int.reduceToNat, Int.reduceLT, Int.reduceLE, Int.reduceGT, Int.reduceGE, Int.reduceEq, Int.reduceNe, Int.reduceBEq, Int.reduceBNe, Int.reduceAdd, Int.reduceSub, Int.reduceMul, Int.reduceNeg,  *]))
    refine ⟨_, Sub.refl _, ?_⟩
    (try rw [t3])
    exact HK.out _ _ H.out.1 H.out.2.1 H.out.2.2
end Go.Proofs.YtdckcophbmnjjaaGreatDoor
