/- Which of two jobs is sent first. -/
import Derived.Test.YtmifapnmlhchlaaE1
set_option linter.all false
namespace Go.Proofs.Ytmifapnmlhchlaa
open Go Go.Proofs.Ytmifapnmlhchlaa.Ab
open Go.Proofs (Try.prog)
set_option maxRecDepth 100000
def orF : List Int → Int
  | [] => 0
  | x :: t => if x ≠ 0 then x else orF t
theorem int_at (C : List Int) (i : Nat) (h : i < C.length) : (C.map fun x => AVal.int .i64 x).getD i .undef = .int .i64 (C.getD i 0) := by
  simp [List.getD_eq_getElem?_getD, h]
set_option maxHeartbeats 1000000 in
theorem or_spec (G : Nat → AVal) (C : List Int) (b N cap : Nat) (m : Heap) (hb : m b = some (.cells (C.map fun x => .int .i64 x) N)) (hl : C.length ≤ 1000) : CallWP Try.prog G 49 [.slice b 0 C.length cap] m fun v m' => v = .int .i64 (orF C) ∧ m' = m := by
  refine callWP_body Try.func49 rfl (N := 18) rfl (rs := [.tmp 2]) rfl en_49 (of_decide_eq_true rfl) ?_
  repeat' (first | exact tf0 ‹_› | exact tf1 ‹_› | exact False.elim ‹_› | (with_reducible refine Al.intro ?_; intro pb hpb; (try simp only [hupd_none'] at hpb); (repeat rcases hpb with ⟨⟨hpx, hpy⟩, hpb⟩)) | with_reducible refine need ?_ | ((with_reducible first | refine frk0 ?_ ?_ | refine frk1 ?_ ?_ | refine frk2 ?_ ?_ | refine frk3 ?_ ?_ | refine frk4 ?_ ?_ | refine frk5 ?_ ?_ | refine frk6 ?_ ?_ | refine frk7 ?_ ?_ | refine frk8 ?_ ?_ | refine frk9 ?_ ?_) <;> intro h <;> try (exfalso; omega)) | with_reducible refine quiet_and ?_ ?_ | with_reducible refine awp_drawnA mixed (by decide +kernel) ?_ | ((fail_if_success with_reducible refine stp ?_); simp -implicitDefEqProofs only [go_sem, Nat.reduceEqDiff, Nat.reduceAdd, Nat.reduceLT, Nat.reduceMul, Nat.reduceSub, Nat.reduceLeDiff, ↓reduceIte, reduceCtorEq, ↓String.reduceEq, String.reduceNe, Int.reduceToNat, Int.reduceLT, Int.reduceLE, Int.reduceGT, Int.reduceGE, Int.reduceEq, Int.reduceNe, Int.reduceBEq, Int.reduceBNe, Int.reduceAdd, Int.reduceSub, Int.reduceMul, Int.reduceNeg,  *]))
  refine awp_loopG (fun k ts m' => ∃ i : Nat, k = C.length - i ∧ i ≤ C.length ∧ ts 3 = .int .i64 0 ∧ ts 6 = .slice b 0 C.length cap ∧ ts 7 = .int .i64 (C.length : Nat) ∧ ts 8 = .int .i64 (i : Nat) ∧ Hid (orF C = orF (C.drop i)) ∧ m' = m) C.length
    ⟨0, rfl, Nat.zero_le _, ttt, ttt, ttt, ttt, Hid.mk (by simp), rfl⟩ ?_
  rintro k ts m' ⟨i, rfl, hi, t3, t6, t7, t8, H0, rfl⟩
  by_cases hil : i < C.length
  · have w1 : IntKind.i64.wrap ((i : Int) + 1) = ((i + 1 : Nat) : Int) := by rw [wrap_i64 (by omega) (by omega)]; rfl
    have lt : (i : Int) < (C.length : Int) := by omega
    obtain ⟨x, hx⟩ : ∃ x, C.getD i 0 = x := ⟨_, rfl⟩
    have g := int_at C i hil
    rw [hx] at g
    have hlm : (C.map fun x => AVal.int .i64 x).length = C.length := by simp
    have hd : C.drop i = x :: C.drop (i + 1) := by
      have e : C.getD i 0 = C[i] := by simp [List.getD_eq_getElem?_getD, hil]
      rw [← hx, e, ← List.drop_eq_getElem_cons hil]
    have HD := Hid.mk hd
    clear hx hd
    repeat' (first | exact tf0 ‹_› | exact tf1 ‹_› | exact False.elim ‹_› | (with_reducible refine Al.intro ?_; intro pb hpb; (try simp only [hupd_none'] at hpb); (repeat rcases hpb with ⟨⟨hpx, hpy⟩, hpb⟩)) | with_reducible refine need ?_ | ((with_reducible first | refine frk0 ?_ ?_ | refine frk1 ?_ ?_ | refine frk2 ?_ ?_ | refine frk3 ?_ ?_ | refine frk4 ?_ ?_ | refine frk5 ?_ ?_ | refine frk6 ?_ ?_ | refine frk7 ?_ ?_ | refine frk8 ?_ ?_ | refine frk9 ?_ ?_) <;> intro h <;> try (exfalso; omega)) | with_reducible refine quiet_and ?_ ?_ | with_reducible refine awp_drawnA mixed (by decide +kernel) ?_ | ((fail_if_success with_reducible refine stp ?_); simp -implicitDefEqProofs only [go_sem, Nat.reduceEqDiff, Nat.reduceAdd, Nat.reduceLT, Nat.reduceMul, Nat.reduceSub, Nat.reduceLeDiff, ↓reduceIte, reduceCtorEq, ↓String.reduceEq, String.reduceNe, Int.reduceToNat, Int.reduceLT, Int.reduceLE, Int.reduceGT, Int.reduceGE, Int.reduceEq, Int.reduceNe, Int.reduceBEq, Int.reduceBNe, Int.reduceAdd, Int.reduceSub, Int.reduceMul, Int.reduceNeg,  *]))
    · rename x ≠ 0 => hx
      refine ⟨m', Sub.refl _, ?_, rfl⟩
      rw [H0.out, HD.out]
      simp only [orF, if_pos hx]
      exact ttt
    · rename x = 0 => hx
      exact Again.intro ⟨C.length - (i + 1), by omega, _, Sub.refl _, i + 1, rfl, by omega, (by first | (simp only [upd, put, Nat.reduceEqDiff, ↓reduceIte, t3]; done) | (simp [upd, put, t3]; done) | rfl | (simp [upd, put, t3]; rfl)), (by first | (simp only [upd, put, Nat.reduceEqDiff, ↓reduceIte, t6]; done) | (simp [upd, put, t6]; done) | rfl | (simp [upd, put, t6]; rfl)), (by first | (simp only [upd, put, Nat.reduceEqDiff, ↓reduceIte, t7]; done) | (simp [upd, put, t7]; done) | rfl | (simp [upd, put, t7]; rfl)), ttt, Hid.mk (by rw [H0.out, HD.out]; simp [orF, hx]), rfl⟩
  · obtain rfl : i = C.length := by omega
    have nlt : ¬ ((C.length : Int) < (C.length : Int)) := by omega
    repeat' (first | exact tf0 ‹_› | exact tf1 ‹_› | exact False.elim ‹_› | (with_reducible refine Al.intro ?_; intro pb hpb; (try simp only [hupd_none'] at hpb); (repeat rcases hpb with ⟨⟨hpx, hpy⟩, hpb⟩)) | with_reducible refine need ?_ | ((with_reducible first | refine frk0 ?_ ?_ | refine frk1 ?_ ?_ | refine frk2 ?_ ?_ | refine frk3 ?_ ?_ | refine frk4 ?_ ?_ | refine frk5 ?_ ?_ | refine frk6 ?_ ?_ | refine frk7 ?_ ?_ | refine frk8 ?_ ?_ | refine frk9 ?_ ?_) <;> intro h <;> try (exfalso; omega)) | with_reducible refine quiet_and ?_ ?_ | with_reducible refine awp_drawnA mixed (by decide +kernel) ?_ | ((fail_if_success with_reducible refine stp ?_); simp -implicitDefEqProofs only [go_sem, Nat.reduceEqDiff, Nat.reduceAdd, Nat.reduceLT, Nat.reduceMul, Nat.reduceSub, Nat.reduceLeDiff, ↓reduceIte, reduceCtorEq, ↓String.reduceEq, String.reduceNe, Int.reduceToNat, Int.reduceLT, Int.reduceLE, Int.reduceGT, Int.reduceGE, Int.reduceEq, Int.reduceNe, Int.reduceBEq, Int.reduceBNe, Int.reduceAdd, Int.reduceSub, Int.reduceMul, Int.reduceNeg,  *]))
    refine ⟨m', Sub.refl _, ?_, rfl⟩
    rw [H0.out]
    simp [orF]
def cmpJ (n : Int) (a b : Jb) : Int := orF [cmpI (a.2.2.1.tdiv n) (b.2.2.1.tdiv n), cmpI a.1 b.1, cmpI a.2.1 b.2.1]
theorem slot_in {d n : Int} (h : 0 ≤ d) (hn : 1 ≤ n) : 0 ≤ d.tdiv n ∧ d.tdiv n ≤ d := by
  rw [Int.tdiv_eq_ediv_of_nonneg h]
  exact ⟨Int.ediv_nonneg h (by omega), Int.ediv_le_self _ h⟩
set_option maxHeartbeats 1000000 in
theorem cmpJ_spec (G : Nat → AVal) (n : Int) (a b : Jb) (ha : rightJ a = true) (hb : rightJ b = true) (hn : 1 ≤ n) : Ans G 33 [encJ a, encJ b, .int .i64 n] (.int .i64 (cmpJ n a b)) := by
  intro m
  obtain ⟨a1, a2, a3, a4, a5⟩ := (rightJ_iff a).1 ha
  obtain ⟨b1, b2, b3, b4, b5⟩ := (rightJ_iff b).1 hb
  obtain ⟨p1, p2⟩ := slot_in (d := a.2.2.1) (by omega) hn
  obtain ⟨q1, q2⟩ := slot_in (d := b.2.2.1) (by omega) hn
  have w1 : IntKind.i64.wrap (a.2.2.1.tdiv n) = a.2.2.1.tdiv n := wrap_i64 (by omega) (by omega)
  have w2 : IntKind.i64.wrap (b.2.2.1.tdiv n) = b.2.2.1.tdiv n := wrap_i64 (by omega) (by omega)
  have nz : n ≠ 0 := by omega
  clear ha hb a1 a2 a3 a4 a5 b1 b2 b3 b4 b5 p1 p2 q1 q2
  refine callWP_body Try.func33 rfl (N := 28) rfl (rs := [.tmp 6]) rfl en_33 (of_decide_eq_true rfl) ?_
  repeat' (first | exact tf0 ‹_› | exact tf1 ‹_› | exact False.elim ‹_› | (with_reducible refine Al.intro ?_; intro pb hpb; (try simp only [hupd_none'] at hpb); (repeat rcases hpb with ⟨⟨hpx, hpy⟩, hpb⟩)) | with_reducible refine need ?_ | ((with_reducible first | refine frk0 ?_ ?_ | refine frk1 ?_ ?_ | refine frk2 ?_ ?_ | refine frk3 ?_ ?_ | refine frk4 ?_ ?_ | refine frk5 ?_ ?_ | refine frk6 ?_ ?_ | refine frk7 ?_ ?_ | refine frk8 ?_ ?_ | refine frk9 ?_ ?_) <;> intro h <;> try (exfalso; omega)) | with_reducible refine quiet_and ?_ ?_ | with_reducible refine awp_drawnA mixed (by decide +kernel) ?_ | ((fail_if_success with_reducible refine stp ?_); simp -implicitDefEqProofs only [go_sem, Nat.reduceEqDiff, Nat.reduceAdd, Nat.reduceLT, Nat.reduceMul, Nat.reduceSub, Nat.reduceLeDiff, ↓reduceIte, reduceCtorEq, ↓String.reduceEq, String.reduceNe, Int.reduceToNat, Int.reduceLT, Int.reduceLE, Int.reduceGT, Int.reduceGE, Int.reduceEq, Int.reduceNe, Int.reduceBEq, Int.reduceBNe, Int.reduceAdd, Int.reduceSub, Int.reduceMul, Int.reduceNeg,  encJ, *]))
  refine awp_drawnE [(0, .q), (1, .q), (2, .q), (3, .q), (4, .q), (5, .q), (6, .q), (7, .q), (8, .k), (9, .q), (10, .q), (11, .q), (12, .q), (13, .k), (14, .q), (15, .q), (16, .q), (17, .q), (18, .k), (19, .q), (20, .e), (21, .q)] (fun i => match i with | 8 => .int .i64 (cmpI (a.2.2.1.tdiv n) (b.2.2.1.tdiv n)) | 13 => .int .i64 (cmpI a.1 b.1) | 18 => .int .i64 (cmpI a.2.1 b.2.1) | _ => .undef) (fun _ => False) (fun _ _ => False) mixed (by decide +kernel) ?_
  repeat' (first | exact tf0 ‹_› | exact tf1 ‹_› | exact False.elim ‹_› | (with_reducible refine Al.intro ?_; intro pb hpb; (try simp only [hupd_none'] at hpb); (repeat rcases hpb with ⟨⟨hpx, hpy⟩, hpb⟩)) | with_reducible refine need ?_ | ((with_reducible first | refine frk0 ?_ ?_ | refine frk1 ?_ ?_ | refine frk2 ?_ ?_ | refine frk3 ?_ ?_ | refine frk4 ?_ ?_ | refine frk5 ?_ ?_ | refine frk6 ?_ ?_ | refine frk7 ?_ ?_ | refine frk8 ?_ ?_ | refine frk9 ?_ ?_) <;> intro h <;> try (exfalso; omega)) | with_reducible refine quiet_and ?_ ?_ | with_reducible refine awp_drawnA mixed (by decide +kernel) ?_ | ((fail_if_success with_reducible refine stp ?_); simp -implicitDefEqProofs only [go_sem, Nat.reduceEqDiff, Nat.reduceAdd, Nat.reduceLT, Nat.reduceMul, Nat.reduceSub, Nat.reduceLeDiff, ↓reduceIte, reduceCtorEq, ↓String.reduceEq, String.reduceNe, Int.reduceToNat, Int.reduceLT, Int.reduceLE, Int.reduceGT, Int.reduceGE, Int.reduceEq, Int.reduceNe, Int.reduceBEq, Int.reduceBNe, Int.reduceAdd, Int.reduceSub, Int.reduceMul, Int.reduceNeg,  encJ, *]))
  · exact fun m' _ => cmp64_spec G _ _ m'
  · exact fun m' _ => cmpI_spec G _ _ m'
  · exact fun m' _ => cmp64_spec G _ _ m'
  refine CallWP.to (or_spec G [cmpI (a.2.2.1.tdiv n) (b.2.2.1.tdiv n), cmpI a.1 b.1, cmpI a.2.1 b.2.1] _ _ _ _ (by rw [hupd_at, if_pos rfl]; rfl) (by simp)) ?_
  repeat' (first | exact tf0 ‹_› | exact tf1 ‹_› | exact False.elim ‹_› | (with_reducible refine Al.intro ?_; intro pb hpb; (try simp only [hupd_none'] at hpb); (repeat rcases hpb with ⟨⟨hpx, hpy⟩, hpb⟩)) | with_reducible refine need ?_ | ((with_reducible first | refine frk0 ?_ ?_ | refine frk1 ?_ ?_ | refine frk2 ?_ ?_ | refine frk3 ?_ ?_ | refine frk4 ?_ ?_ | refine frk5 ?_ ?_ | refine frk6 ?_ ?_ | refine frk7 ?_ ?_ | refine frk8 ?_ ?_ | refine frk9 ?_ ?_) <;> intro h <;> try (exfalso; omega)) | with_reducible refine quiet_and ?_ ?_ | with_reducible refine awp_drawnA mixed (by decide +kernel) ?_ | ((fail_if_success with_reducible refine stp ?_); simp -implicitDefEqProofs only [go_sem, Nat.reduceEqDiff, Nat.reduceAdd, Nat.reduceLT, Nat.reduceMul, Nat.reduceSub, Nat.reduceLeDiff, ↓reduceIte, reduceCtorEq, ↓String.reduceEq, String.reduceNe, Int.reduceToNat, Int.reduceLT, Int.reduceLE, Int.reduceGT, Int.reduceGE, Int.reduceEq, Int.reduceNe, Int.reduceBEq, Int.reduceBNe, Int.reduceAdd, Int.reduceSub, Int.reduceMul, Int.reduceNeg,  *]))
  exact ⟨m, (by (repeat refine Sub.fresh ?_ (by assumption)); exact Sub.refl m), rfl, rfl⟩
instance (n : Int) (a b : Jb) : Decidable (a.2.2.1.tdiv n < b.2.2.1.tdiv n ∨ (a.2.2.1.tdiv n = b.2.2.1.tdiv n ∧ (a.1 < b.1 ∨ (a.1 = b.1 ∧ a.2.1 < b.2.1)))) := inferInstance
def aheadF (n : Int) (a b : Jb) : Bool := rightJ a && rightJ b && decide (1 ≤ n ∧ n ≤ 1073741824) && decide (cmpJ n a b < 0)
set_option maxHeartbeats 1000000 in
theorem ahead_spec (G : Nat → AVal) (n : Int) (a b : Jb) : Ans G 16 [encJ a, encJ b, .int .i64 n] (.bool (aheadF n a b)) := by
  intro m
  refine callWP_body Try.func16 rfl (N := 24) rfl (rs := [.tmp 6]) rfl en_16 (of_decide_eq_true rfl) ?_
  repeat' (first | exact tf0 ‹_› | exact tf1 ‹_› | exact False.elim ‹_› | (with_reducible refine Al.intro ?_; intro pb hpb; (try simp only [hupd_none'] at hpb); (repeat rcases hpb with ⟨⟨hpx, hpy⟩, hpb⟩)) | with_reducible refine need ?_ | ((with_reducible first | refine frk0 ?_ ?_ | refine frk1 ?_ ?_ | refine frk2 ?_ ?_ | refine frk3 ?_ ?_ | refine frk4 ?_ ?_ | refine frk5 ?_ ?_ | refine frk6 ?_ ?_ | refine frk7 ?_ ?_ | refine frk8 ?_ ?_ | refine frk9 ?_ ?_) <;> intro h <;> try (exfalso; omega)) | with_reducible refine quiet_and ?_ ?_ | with_reducible refine awp_drawnA mixed (by decide +kernel) ?_ | ((fail_if_success with_reducible refine stp ?_); simp -implicitDefEqProofs only [go_sem, Nat.reduceEqDiff, Nat.reduceAdd, Nat.reduceLT, Nat.reduceMul, Nat.reduceSub, Nat.reduceLeDiff, ↓reduceIte, reduceCtorEq, ↓String.reduceEq, String.reduceNe, Int.reduceToNat, Int.reduceLT, Int.reduceLE, Int.reduceGT, Int.reduceGE, Int.reduceEq, Int.reduceNe, Int.reduceBEq, Int.reduceBNe, Int.reduceAdd, Int.reduceSub, Int.reduceMul, Int.reduceNeg,  encJ, *]))
  refine CallWP.to (right_spec G a _) ?_
  repeat' (first | exact tf0 ‹_› | exact tf1 ‹_› | exact False.elim ‹_› | (with_reducible refine Al.intro ?_; intro pb hpb; (try simp only [hupd_none'] at hpb); (repeat rcases hpb with ⟨⟨hpx, hpy⟩, hpb⟩)) | with_reducible refine need ?_ | ((with_reducible first | refine frk0 ?_ ?_ | refine frk1 ?_ ?_ | refine frk2 ?_ ?_ | refine frk3 ?_ ?_ | refine frk4 ?_ ?_ | refine frk5 ?_ ?_ | refine frk6 ?_ ?_ | refine frk7 ?_ ?_ | refine frk8 ?_ ?_ | refine frk9 ?_ ?_) <;> intro h <;> try (exfalso; omega)) | with_reducible refine quiet_and ?_ ?_ | with_reducible refine awp_drawnA mixed (by decide +kernel) ?_ | ((fail_if_success with_reducible refine stp ?_); simp -implicitDefEqProofs only [go_sem, Nat.reduceEqDiff, Nat.reduceAdd, Nat.reduceLT, Nat.reduceMul, Nat.reduceSub, Nat.reduceLeDiff, ↓reduceIte, reduceCtorEq, ↓String.reduceEq, String.reduceNe, Int.reduceToNat, Int.reduceLT, Int.reduceLE, Int.reduceGT, Int.reduceGE, Int.reduceEq, Int.reduceNe, Int.reduceBEq, Int.reduceBNe, Int.reduceAdd, Int.reduceSub, Int.reduceMul, Int.reduceNeg,  encJ, *]))
  · refine CallWP.to (right_spec G b _) ?_
    repeat' (first | exact tf0 ‹_› | exact tf1 ‹_› | exact False.elim ‹_› | (with_reducible refine Al.intro ?_; intro pb hpb; (try simp only [hupd_none'] at hpb); (repeat rcases hpb with ⟨⟨hpx, hpy⟩, hpb⟩)) | with_reducible refine need ?_ | ((with_reducible first | refine frk0 ?_ ?_ | refine frk1 ?_ ?_ | refine frk2 ?_ ?_ | refine frk3 ?_ ?_ | refine frk4 ?_ ?_ | refine frk5 ?_ ?_ | refine frk6 ?_ ?_ | refine frk7 ?_ ?_ | refine frk8 ?_ ?_ | refine frk9 ?_ ?_) <;> intro h <;> try (exfalso; omega)) | with_reducible refine quiet_and ?_ ?_ | with_reducible refine awp_drawnA mixed (by decide +kernel) ?_ | ((fail_if_success with_reducible refine stp ?_); simp -implicitDefEqProofs only [go_sem, Nat.reduceEqDiff, Nat.reduceAdd, Nat.reduceLT, Nat.reduceMul, Nat.reduceSub, Nat.reduceLeDiff, ↓reduceIte, reduceCtorEq, ↓String.reduceEq, String.reduceNe, Int.reduceToNat, Int.reduceLT, Int.reduceLE, Int.reduceGT, Int.reduceGE, Int.reduceEq, Int.reduceNe, Int.reduceBEq, Int.reduceBNe, Int.reduceAdd, Int.reduceSub, Int.reduceMul, Int.reduceNeg,  encJ, *]))
    · refine CallWP.to (within_spec G n 1 1073741824 (by decide) _) ?_
      repeat' (first | exact tf0 ‹_› | exact tf1 ‹_› | exact False.elim ‹_› | (with_reducible refine Al.intro ?_; intro pb hpb; (try simp only [hupd_none'] at hpb); (repeat rcases hpb with ⟨⟨hpx, hpy⟩, hpb⟩)) | with_reducible refine need ?_ | ((with_reducible first | refine frk0 ?_ ?_ | refine frk1 ?_ ?_ | refine frk2 ?_ ?_ | refine frk3 ?_ ?_ | refine frk4 ?_ ?_ | refine frk5 ?_ ?_ | refine frk6 ?_ ?_ | refine frk7 ?_ ?_ | refine frk8 ?_ ?_ | refine frk9 ?_ ?_) <;> intro h <;> try (exfalso; omega)) | with_reducible refine quiet_and ?_ ?_ | with_reducible refine awp_drawnA mixed (by decide +kernel) ?_ | ((fail_if_success with_reducible refine stp ?_); simp -implicitDefEqProofs only [go_sem, Nat.reduceEqDiff, Nat.reduceAdd, Nat.reduceLT, Nat.reduceMul, Nat.reduceSub, Nat.reduceLeDiff, ↓reduceIte, reduceCtorEq, ↓String.reduceEq, String.reduceNe, Int.reduceToNat, Int.reduceLT, Int.reduceLE, Int.reduceGT, Int.reduceGE, Int.reduceEq, Int.reduceNe, Int.reduceBEq, Int.reduceBNe, Int.reduceAdd, Int.reduceSub, Int.reduceMul, Int.reduceNeg,  encJ, *]))
      · rename rightJ a = true => ha
        rename rightJ b = true => hb
        rename 1 ≤ n ∧ n ≤ 1073741824 => hn
        refine CallWP.to (cmpJ_spec G n a b ha hb hn.1 _) ?_
        repeat' (first | exact tf0 ‹_› | exact tf1 ‹_› | exact False.elim ‹_› | (with_reducible refine Al.intro ?_; intro pb hpb; (try simp only [hupd_none'] at hpb); (repeat rcases hpb with ⟨⟨hpx, hpy⟩, hpb⟩)) | with_reducible refine need ?_ | ((with_reducible first | refine frk0 ?_ ?_ | refine frk1 ?_ ?_ | refine frk2 ?_ ?_ | refine frk3 ?_ ?_ | refine frk4 ?_ ?_ | refine frk5 ?_ ?_ | refine frk6 ?_ ?_ | refine frk7 ?_ ?_ | refine frk8 ?_ ?_ | refine frk9 ?_ ?_) <;> intro h <;> try (exfalso; omega)) | with_reducible refine quiet_and ?_ ?_ | with_reducible refine awp_drawnA mixed (by decide +kernel) ?_ | ((fail_if_success with_reducible refine stp ?_); simp -implicitDefEqProofs only [go_sem, Nat.reduceEqDiff, Nat.reduceAdd, Nat.reduceLT, Nat.reduceMul, Nat.reduceSub, Nat.reduceLeDiff, ↓reduceIte, reduceCtorEq, ↓String.reduceEq, String.reduceNe, Int.reduceToNat, Int.reduceLT, Int.reduceLE, Int.reduceGT, Int.reduceGE, Int.reduceEq, Int.reduceNe, Int.reduceBEq, Int.reduceBNe, Int.reduceAdd, Int.reduceSub, Int.reduceMul, Int.reduceNeg,  *]))
        refine ⟨m, (by (repeat refine Sub.fresh ?_ (by assumption)); exact Sub.refl m), ?_, rfl⟩
        show AVal.bool (decide (cmpJ n a b < 0)) = _
        simp [aheadF, ha, hb, hn]
      · refine ⟨m, (by (repeat refine Sub.fresh ?_ (by assumption)); exact Sub.refl m), ?_, rfl⟩
        show AVal.bool false = _
        rename ¬ (1 ≤ n ∧ n ≤ 1073741824) => hn
        simp [aheadF, hn]
    · refine ⟨m, (by (repeat refine Sub.fresh ?_ (by assumption)); exact Sub.refl m), ?_, rfl⟩
      show AVal.bool false = _
      rename rightJ b = false => hb
      simp [aheadF, hb]
  · refine ⟨m, (by (repeat refine Sub.fresh ?_ (by assumption)); exact Sub.refl m), ?_, rfl⟩
    show AVal.bool false = _
    rename rightJ a = false => ha
    simp [aheadF, ha]
theorem cmpI_lt (x y : Int) : cmpI x y < 0 ↔ x < y := by unfold cmpI; repeat' split
                                                         all_goals omega
theorem cmpI_ne (x y : Int) : cmpI x y ≠ 0 ↔ x ≠ y := by unfold cmpI; repeat' split
                                                         all_goals omega
/-- Ahead by slot, stream, time. -/
def LJ (n : Int) (a b : Jb) : Prop := a.2.2.1.tdiv n < b.2.2.1.tdiv n ∨ (a.2.2.1.tdiv n = b.2.2.1.tdiv n ∧ (a.1 < b.1 ∨ (a.1 = b.1 ∧ a.2.1 < b.2.1)))
instance (n : Int) (a b : Jb) : Decidable (LJ n a b) := by unfold LJ; exact inferInstance
theorem cmpJ_lt (n : Int) (a b : Jb) : cmpJ n a b < 0 ↔ LJ n a b := by
  unfold cmpJ LJ orF orF orF orF
  simp only [cmpI_ne]
  repeat' split
  all_goals (try rw [cmpI_lt])
  all_goals omega
set_option maxHeartbeats 1000000 in
theorem rahead_spec (G : Nat → AVal) (n : Int) (a b : Jb) : Ans G 19 [encJ a, encJ b, .int .i64 n] (.bool (aheadF n a b)) := by
  intro m
  refine callWP_body Try.func19 rfl (N := 54) rfl (rs := [.tmp 6]) rfl en_19 (of_decide_eq_true rfl) ?_
  repeat' (first | exact tf0 ‹_› | exact tf1 ‹_› | exact False.elim ‹_› | (with_reducible refine Al.intro ?_; intro pb hpb; (try simp only [hupd_none'] at hpb); (repeat rcases hpb with ⟨⟨hpx, hpy⟩, hpb⟩)) | with_reducible refine need ?_ | ((with_reducible first | refine frk0 ?_ ?_ | refine frk1 ?_ ?_ | refine frk2 ?_ ?_ | refine frk3 ?_ ?_ | refine frk4 ?_ ?_ | refine frk5 ?_ ?_ | refine frk6 ?_ ?_ | refine frk7 ?_ ?_ | refine frk8 ?_ ?_ | refine frk9 ?_ ?_) <;> intro h <;> try (exfalso; omega)) | with_reducible refine quiet_and ?_ ?_ | with_reducible refine awp_drawnA mixed (by decide +kernel) ?_ | ((fail_if_success with_reducible refine stp ?_); simp -implicitDefEqProofs only [go_sem, Nat.reduceEqDiff, Nat.reduceAdd, Nat.reduceLT, Nat.reduceMul, Nat.reduceSub, Nat.reduceLeDiff, ↓reduceIte, reduceCtorEq, ↓String.reduceEq, String.reduceNe, Int.reduceToNat, Int.reduceLT, Int.reduceLE, Int.reduceGT, Int.reduceGE, Int.reduceEq, Int.reduceNe, Int.reduceBEq, Int.reduceBNe, Int.reduceAdd, Int.reduceSub, Int.reduceMul, Int.reduceNeg,  encJ, *]))
  refine CallWP.to (rright_spec G a _) ?_
  repeat' (first | exact tf0 ‹_› | exact tf1 ‹_› | exact False.elim ‹_› | (with_reducible refine Al.intro ?_; intro pb hpb; (try simp only [hupd_none'] at hpb); (repeat rcases hpb with ⟨⟨hpx, hpy⟩, hpb⟩)) | with_reducible refine need ?_ | ((with_reducible first | refine frk0 ?_ ?_ | refine frk1 ?_ ?_ | refine frk2 ?_ ?_ | refine frk3 ?_ ?_ | refine frk4 ?_ ?_ | refine frk5 ?_ ?_ | refine frk6 ?_ ?_ | refine frk7 ?_ ?_ | refine frk8 ?_ ?_ | refine frk9 ?_ ?_) <;> intro h <;> try (exfalso; omega)) | with_reducible refine quiet_and ?_ ?_ | with_reducible refine awp_drawnA mixed (by decide +kernel) ?_ | ((fail_if_success with_reducible refine stp ?_); simp -implicitDefEqProofs only [go_sem, Nat.reduceEqDiff, Nat.reduceAdd, Nat.reduceLT, Nat.reduceMul, Nat.reduceSub, Nat.reduceLeDiff, ↓reduceIte, reduceCtorEq, ↓String.reduceEq, String.reduceNe, Int.reduceToNat, Int.reduceLT, Int.reduceLE, Int.reduceGT, Int.reduceGE, Int.reduceEq, Int.reduceNe, Int.reduceBEq, Int.reduceBNe, Int.reduceAdd, Int.reduceSub, Int.reduceMul, Int.reduceNeg,  encJ, *]))
  · rename (!rightJ a) = false => ha
    replace ha : rightJ a = true := by simpa using ha
    refine CallWP.to (rright_spec G b _) ?_
    obtain ⟨a1, a2, a3, a4, a5⟩ := (rightJ_iff a).1 ha
    by_cases hb : rightJ b = true
    · obtain ⟨b1, b2, b3, b4, b5⟩ := (rightJ_iff b).1 hb
      by_cases hn : 1 ≤ n ∧ n ≤ 1073741824
      · obtain ⟨p1, p2⟩ := slot_in (d := a.2.2.1) (by omega) hn.1
        obtain ⟨q1, q2⟩ := slot_in (d := b.2.2.1) (by omega) hn.1
        have w1 : IntKind.i64.wrap (a.2.2.1.tdiv n) = a.2.2.1.tdiv n := wrap_i64 (by omega) (by omega)
        have w2 : IntKind.i64.wrap (b.2.2.1.tdiv n) = b.2.2.1.tdiv n := wrap_i64 (by omega) (by omega)
        have nz : n ≠ 0 := by omega
        have hf : aheadF n a b = decide (LJ n a b) := by
          have : decide (cmpJ n a b < 0) = decide (LJ n a b) := by rw [Bool.eq_iff_iff]; simp only [decide_eq_true_eq, cmpJ_lt]
          simp [aheadF, ha, hb, hn, this]
        have HF := Hid.mk hf
        have n1 : ¬ n < 1 := by omega
        have n2 : ¬ n > 1073741824 := by omega
        clear a1 a2 a3 a4 a5 b1 b2 b3 b4 b5 p1 p2 q1 q2 hf
        repeat' (first | exact tf0 ‹_› | exact tf1 ‹_› | exact False.elim ‹_› | (with_reducible refine Al.intro ?_; intro pb hpb; (try simp only [hupd_none'] at hpb); (repeat rcases hpb with ⟨⟨hpx, hpy⟩, hpb⟩)) | with_reducible refine need ?_ | ((with_reducible first | refine frk0 ?_ ?_ | refine frk1 ?_ ?_ | refine frk2 ?_ ?_ | refine frk3 ?_ ?_ | refine frk4 ?_ ?_ | refine frk5 ?_ ?_ | refine frk6 ?_ ?_ | refine frk7 ?_ ?_ | refine frk8 ?_ ?_ | refine frk9 ?_ ?_) <;> intro h <;> try (exfalso; omega)) | with_reducible refine quiet_and ?_ ?_ | with_reducible refine awp_drawnA mixed (by decide +kernel) ?_ | ((fail_if_success with_reducible refine stp ?_); simp -implicitDefEqProofs only [go_sem, Nat.reduceEqDiff, Nat.reduceAdd, Nat.reduceLT, Nat.reduceMul, Nat.reduceSub, Nat.reduceLeDiff, ↓reduceIte, reduceCtorEq, ↓String.reduceEq, String.reduceNe, Int.reduceToNat, Int.reduceLT, Int.reduceLE, Int.reduceGT, Int.reduceGE, Int.reduceEq, Int.reduceNe, Int.reduceBEq, Int.reduceBNe, Int.reduceAdd, Int.reduceSub, Int.reduceMul, Int.reduceNeg,  encJ, *]))
        all_goals refine ⟨m, (by (repeat refine Sub.fresh ?_ (by assumption)); exact Sub.refl m), ?_, rfl⟩
        all_goals rw [HF.out]
        all_goals congr 1
        all_goals rw [Bool.eq_iff_iff]
        all_goals simp only [decide_eq_true_eq]
        all_goals unfold LJ
        all_goals omega
      · have HF := Hid.mk (show aheadF n a b = false by simp [aheadF, hn])
        clear a1 a2 a3 a4 a5
        repeat' (first | exact tf0 ‹_› | exact tf1 ‹_› | exact False.elim ‹_› | (with_reducible refine Al.intro ?_; intro pb hpb; (try simp only [hupd_none'] at hpb); (repeat rcases hpb with ⟨⟨hpx, hpy⟩, hpb⟩)) | with_reducible refine need ?_ | ((with_reducible first | refine frk0 ?_ ?_ | refine frk1 ?_ ?_ | refine frk2 ?_ ?_ | refine frk3 ?_ ?_ | refine frk4 ?_ ?_ | refine frk5 ?_ ?_ | refine frk6 ?_ ?_ | refine frk7 ?_ ?_ | refine frk8 ?_ ?_ | refine frk9 ?_ ?_) <;> intro h <;> try (exfalso; omega)) | with_reducible refine quiet_and ?_ ?_ | with_reducible refine awp_drawnA mixed (by decide +kernel) ?_ | ((fail_if_success with_reducible refine stp ?_); simp -implicitDefEqProofs only [go_sem, Nat.reduceEqDiff, Nat.reduceAdd, Nat.reduceLT, Nat.reduceMul, Nat.reduceSub, Nat.reduceLeDiff, ↓reduceIte, reduceCtorEq, ↓String.reduceEq, String.reduceNe, Int.reduceToNat, Int.reduceLT, Int.reduceLE, Int.reduceGT, Int.reduceGE, Int.reduceEq, Int.reduceNe, Int.reduceBEq, Int.reduceBNe, Int.reduceAdd, Int.reduceSub, Int.reduceMul, Int.reduceNeg,  encJ, *]))
        all_goals refine ⟨m, (by (repeat refine Sub.fresh ?_ (by assumption)); exact Sub.refl m), ?_, rfl⟩
        all_goals rw [HF.out]
    · have hb' : rightJ b = false := by simpa using hb
      have HF := Hid.mk (show aheadF n a b = false by simp [aheadF, hb'])
      clear a1 a2 a3 a4 a5 hb
      repeat' (first | exact tf0 ‹_› | exact tf1 ‹_› | exact False.elim ‹_› | (with_reducible refine Al.intro ?_; intro pb hpb; (try simp only [hupd_none'] at hpb); (repeat rcases hpb with ⟨⟨hpx, hpy⟩, hpb⟩)) | with_reducible refine need ?_ | ((with_reducible first | refine frk0 ?_ ?_ | refine frk1 ?_ ?_ | refine frk2 ?_ ?_ | refine frk3 ?_ ?_ | refine frk4 ?_ ?_ | refine frk5 ?_ ?_ | refine frk6 ?_ ?_ | refine frk7 ?_ ?_ | refine frk8 ?_ ?_ | refine frk9 ?_ ?_) <;> intro h <;> try (exfalso; omega)) | with_reducible refine quiet_and ?_ ?_ | with_reducible refine awp_drawnA mixed (by decide +kernel) ?_ | ((fail_if_success with_reducible refine stp ?_); simp -implicitDefEqProofs only [go_sem, Nat.reduceEqDiff, Nat.reduceAdd, Nat.reduceLT, Nat.reduceMul, Nat.reduceSub, Nat.reduceLeDiff, ↓reduceIte, reduceCtorEq, ↓String.reduceEq, String.reduceNe, Int.reduceToNat, Int.reduceLT, Int.reduceLE, Int.reduceGT, Int.reduceGE, Int.reduceEq, Int.reduceNe, Int.reduceBEq, Int.reduceBNe, Int.reduceAdd, Int.reduceSub, Int.reduceMul, Int.reduceNeg,  encJ, *]))
      all_goals refine ⟨m, (by (repeat refine Sub.fresh ?_ (by assumption)); exact Sub.refl m), ?_, rfl⟩
      all_goals rw [HF.out]
  · refine ⟨m, (by (repeat refine Sub.fresh ?_ (by assumption)); exact Sub.refl m), ?_, rfl⟩
    rename (!rightJ a) = true => ha
    replace ha : rightJ a = false := by simpa using ha
    simp [aheadF, ha]
end Go.Proofs.Ytmifapnmlhchlaa
