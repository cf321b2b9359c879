/- Of two jobs which is ahead. -/
import Derived.Test.YtmifapnmlhchlaaE23
set_option linter.all false
namespace Go.Proofs.Ytmifapnmlhchlaa
open Go Go.Proofs.Ytmifapnmlhchlaa.Ab
open Go.Proofs (Try.prog)
set_option maxRecDepth 100000
theorem ahead_asym (n : Int) (a b : Jb) : (aheadF n a b && aheadF n b a) = false := by
  cases h : aheadF n a b && aheadF n b a
  · rfl
  · rw [Bool.and_eq_true] at h
    obtain ⟨h1, h2⟩ := h
    unfold aheadF at h1 h2
    simp only [Bool.and_eq_true, decide_eq_true_eq, cmpJ_lt] at h1 h2
    have a1 := h1.2
    have a2 := h2.2
    unfold LJ at a1 a2
    omega
set_option maxHeartbeats 4000000 in
theorem edfAhead_spec (G : Nat → AVal) (a b : Jb) (n : Int) : Ans G 4 [encJ a, encJ b, .int .i64 n] (.bool true) := by
  intro m
  obtain ⟨x, hx⟩ : ∃ x, aheadF n a b = x := ⟨_, rfl⟩
  obtain ⟨y, hy⟩ : ∃ y, aheadF n b a = y := ⟨_, rfl⟩
  obtain ⟨r, hr⟩ : ∃ r, rightJ a = r := ⟨_, rfl⟩
  have hxy : (x && y) = false := by rw [← hx, ← hy]; exact ahead_asym n a b
  have HX := Hid.mk hx
  have HY := Hid.mk hy
  have HR := Hid.mk hr
  clear hx hy hr
  refine callWP_body Try.func4 rfl (N := 48) rfl (rs := [.tmp 6]) rfl en_4 (of_decide_eq_true rfl) ?_
  repeat' (first | exact tf0 ‹_› | exact tf1 ‹_› | exact False.elim ‹_› | (with_reducible refine Al.intro ?_; intro pb hpb; (try simp only [hupd_none'] at hpb); (repeat rcases hpb with ⟨⟨hpx, hpy⟩, hpb⟩)) | with_reducible refine need ?_ | ((with_reducible first | refine frk0 ?_ ?_ | refine frk1 ?_ ?_ | refine frk2 ?_ ?_ | refine frk3 ?_ ?_ | refine frk4 ?_ ?_ | refine frk5 ?_ ?_ | refine frk6 ?_ ?_ | refine frk7 ?_ ?_ | refine frk8 ?_ ?_ | refine frk9 ?_ ?_) <;> intro h <;> try (exfalso; omega)) | with_reducible refine quiet_and ?_ ?_ | with_reducible refine awp_drawnA mixed (by decide +kernel) ?_ | ((fail_if_success with_reducible refine stp ?_); simp -implicitDefEqProofs only [go_sem, Nat.reduceEqDiff, Nat.reduceAdd, Nat.reduceLT, Nat.reduceMul, Nat.reduceSub, Nat.reduceLeDiff, ↓reduceIte, reduceCtorEq, ↓String.reduceEq, String.reduceNe, Int.reduceToNat, Int.reduceLT, Int.reduceLE, Int.reduceGT, Int.reduceGE, Int.reduceEq, Int.reduceNe, Int.reduceBEq, Int.reduceBNe, Int.reduceAdd, Int.reduceSub, Int.reduceMul, Int.reduceNeg,  encJ, *]))
  refine awp_drawnE [(0, .q), (1, .q), (2, .q), (3, .k), (4, .q), (5, .q), (6, .q), (7, .k), (8, .q), (9, .q)] (fun i => match i with | 3 => .bool x | 7 => .bool y | _ => .undef) (fun _ => False) (fun _ _ => False) mixed (by decide +kernel) ?_
  repeat' (first | exact tf0 ‹_› | exact tf1 ‹_› | exact False.elim ‹_› | (with_reducible refine Al.intro ?_; intro pb hpb; (try simp only [hupd_none'] at hpb); (repeat rcases hpb with ⟨⟨hpx, hpy⟩, hpb⟩)) | with_reducible refine need ?_ | ((with_reducible first | refine frk0 ?_ ?_ | refine frk1 ?_ ?_ | refine frk2 ?_ ?_ | refine frk3 ?_ ?_ | refine frk4 ?_ ?_ | refine frk5 ?_ ?_ | refine frk6 ?_ ?_ | refine frk7 ?_ ?_ | refine frk8 ?_ ?_ | refine frk9 ?_ ?_) <;> intro h <;> try (exfalso; omega)) | with_reducible refine quiet_and ?_ ?_ | with_reducible refine awp_drawnA mixed (by decide +kernel) ?_ | ((fail_if_success with_reducible refine stp ?_); simp -implicitDefEqProofs only [go_sem, Nat.reduceEqDiff, Nat.reduceAdd, Nat.reduceLT, Nat.reduceMul, Nat.reduceSub, Nat.reduceLeDiff, ↓reduceIte, reduceCtorEq, ↓String.reduceEq, String.reduceNe, Int.reduceToNat, Int.reduceLT, Int.reduceLE, Int.reduceGT, Int.reduceGE, Int.reduceEq, Int.reduceNe, Int.reduceBEq, Int.reduceBNe, Int.reduceAdd, Int.reduceSub, Int.reduceMul, Int.reduceNeg,  *]))
  · exact fun m' _ => by rw [← HX.out]; exact ahead_spec G n a b m'
  · exact fun m' _ => by rw [← HY.out]; exact ahead_spec G n b a m'
  refine awp_drawnE [(0, .k), (1, .q), (2, .q), (3, .k), (4, .q), (5, .k), (6, .q), (7, .q), (8, .q), (9, .q), (10, .q), (11, .q), (12, .q), (13, .k), (14, .q), (15, .q), (16, .q), (17, .q), (18, .q), (19, .q), (20, .q), (21, .k), (22, .q), (23, .q), (24, .q), (25, .q), (26, .q), (27, .q), (28, .q), (29, .q), (30, .q), (31, .q)] (fun i => match i with | 0 => .bool true | 3 => .bool r | 5 => .bool r | 13 => .bool x | 21 => .bool y | _ => .undef) (fun _ => False) (fun _ _ => False) mixed (by decide +kernel) ?_
  repeat' (first | exact tf0 ‹_› | exact tf1 ‹_› | exact False.elim ‹_› | (with_reducible refine Al.intro ?_; intro pb hpb; (try simp only [hupd_none'] at hpb); (repeat rcases hpb with ⟨⟨hpx, hpy⟩, hpb⟩)) | with_reducible refine need ?_ | ((with_reducible first | refine frk0 ?_ ?_ | refine frk1 ?_ ?_ | refine frk2 ?_ ?_ | refine frk3 ?_ ?_ | refine frk4 ?_ ?_ | refine frk5 ?_ ?_ | refine frk6 ?_ ?_ | refine frk7 ?_ ?_ | refine frk8 ?_ ?_ | refine frk9 ?_ ?_) <;> intro h <;> try (exfalso; omega)) | with_reducible refine quiet_and ?_ ?_ | with_reducible refine awp_drawnA mixed (by decide +kernel) ?_ | ((fail_if_success with_reducible refine stp ?_); simp -implicitDefEqProofs only [go_sem, Nat.reduceEqDiff, Nat.reduceAdd, Nat.reduceLT, Nat.reduceMul, Nat.reduceSub, Nat.reduceLeDiff, ↓reduceIte, reduceCtorEq, ↓String.reduceEq, String.reduceNe, Int.reduceToNat, Int.reduceLT, Int.reduceLE, Int.reduceGT, Int.reduceGE, Int.reduceEq, Int.reduceNe, Int.reduceBEq, Int.reduceBNe, Int.reduceAdd, Int.reduceSub, Int.reduceMul, Int.reduceNeg,  *]))
  all_goals first | exact fun m' _ => live_spec G m' | exact fun m' _ => (by rw [← HR.out]; exact right_spec G a m') | exact fun m' _ => (by rw [← HR.out]; exact rright_spec G a m') | exact fun m' _ => (by rw [← HX.out]; exact rahead_spec G n a b m') | exact fun m' _ => (by rw [← HY.out]; exact rahead_spec G n b a m') | skip
  · rw [show y = false by rw [h] at hxy; simpa using hxy]
    exact ⟨m, (by (repeat refine Sub.fresh ?_ (by assumption)); exact Sub.refl m), rfl, rfl⟩
  · exact ⟨m, (by (repeat refine Sub.fresh ?_ (by assumption)); exact Sub.refl m), rfl, rfl⟩
end Go.Proofs.Ytmifapnmlhchlaa
