/- Rows of bytes; a number's bits; an identifier's bits: how many there are. A string's bits, one by one: a range over a function. A string with clean bits; the number of its bits. -/
import Derived.Test.YtdckcophbmnjjaaGreatDoorX6
set_option linter.all false
namespace Go.Proofs.YtdckcophbmnjjaaGreatDoor
open Go Go.Proofs.YtdckcophbmnjjaaGreatDoor.Ab
open Go.Proofs (Tryz.prog)
set_option maxRecDepth 100000
abbrev encU (x : Int) : List AVal := [.int .u8 x]
theorem encU_len (x : Int) : (encU x).length = 1 := rfl
theorem encU_map (C : List Int) : C.flatMap encU = C.map (AVal.int .u8) := by
  induction C with
  | nil => rfl
  | cons x t ih => rw [List.flatMap_cons, ih]; rfl
/-- A row of bytes. -/
def rowU (D : List Int) (N : Nat) : ABlk := .cells (D.flatMap encU) N
theorem rowU_at (D : List Int) (i : Nat) (h : i < D.length) (x : Int) (hx : D.getD i 0 = x) : (D.flatMap encU).getD i .undef = .int .u8 x := by
  rw [encU_map, ← hx]; simp [List.getD_eq_getElem?_getD, h]
theorem rowU_set (D : List Int) (i : Nat) (x : Int) (h : i < D.length) : splice (D.flatMap encU) i [.int .u8 x] = (D.set i x).flatMap encU := by
  have := flat_set (enc := encU) (sz := 1) (fun _ => rfl) D [] i x h
  rw [Nat.mul_one, List.append_nil, List.append_nil] at this
  exact this
theorem rowU_len (D : List Int) : (D.flatMap encU).length = D.length := by rw [encU_map, List.length_map]
theorem rowU_rep (k : Nat) : ABlk.cells (rep k [AVal.int .u8 0]) k = rowU (List.replicate k 0) k := by
  unfold rowU
  rw [rep_one, encU_map, List.map_replicate]
/-- A row of so many bytes, made anew. -/
def NewU (m : Heap) (n : Nat) (v : AVal) (m' : Heap) : Prop := ∃ C : List Int, C.length = n ∧ SlM encU 1 C v m' ∧ Sub m m' ∧ ∀ b, bOf v = some b → m b = none
set_option maxHeartbeats 1000000 in
theorem of_spec (G : Nat → AVal) (x : Int) (n : Nat) (h1 : 1 ≤ n) (h2 : n ≤ 64) (m : Heap) (K : AVal → Heap → Prop) (hK : ∀ b m', NewU m n (.slice b 0 n n) m' → K (.slice b 0 n n) m') : CallWP Tryz.prog G 92 [.int .u64 x, .int .i64 (n : Nat)] m K := by
  have HK := Hid.mk hK
  clear hK
  have n1 : ¬ (n : Int) < 1 := by omega
  have n2 : ¬ 64 < (n : Int) := by omega
  have w1 : IntKind.i64.wrap ((n : Int) - 1) = (n : Int) - 1 := wrap_i64 (by omega) (by omega)
  refine callWP_body Tryz.func92 rfl (N := 33) rfl (rs := [.tmp 4]) rfl en_92 (of_decide_eq_true rfl) ?_
  repeat' (first | exact tf0 ‹_› | exact tf1 ‹_› | exact False.elim ‹_› | (with_reducible refine Al.intro ?_; intro pb hpb; (try simp only [hupd_none'] at hpb); (repeat rcases hpb with ⟨⟨hpx, hpy⟩, hpb⟩)) | with_reducible refine need ?_ | ((with_reducible first | apply frk0 | apply frk1 | apply frk2 | apply frk3 | apply frk4 | apply frk5 | apply frk6 | apply frk7 | apply frk8 | apply frk9) <;> intro h <;> try (exfalso; omega)) | with_reducible refine quiet_and ?_ ?_ | with_reducible refine awp_drawnA mixed (by decide +kernel) ?_ | ((fail_if_success with_reducible refine stp ?_); simp -implicitDefEqProofs only [go_sem, Nat.reduceEqDiff, Nat.reduceAdd, Nat.reduceLT, Nat.reduceMul, Nat.reduceSub, Nat.reduceLeDiff, ↓reduceIte, reduceCtorEq, ↓String.reduceEq, String.reduceNe, Int.reduceToNat, Int.reduceLT, Int.reduceLE, Int.reduceGT, Int.reduceGE, Int.reduceEq, Int.reduceNe, Int.reduceBEq, Int.reduceBNe, Int.reduceAdd, Int.reduceSub, Int.reduceMul, Int.reduceNeg,  *]))
  have HP := Hid.mk hpb
  obtain ⟨pd, epd⟩ : ∃ pd, pd = pb := ⟨_, rfl⟩
  rw [rowU_rep]
  clear hpb
  subst epd
  refine awp_loopP 0 (fun ts m' => ∃ D : List Int, Hid (D.length = n) ∧ ts 5 = .slice pd 0 n n ∧ m' = hupd m pd (rowU D n))
    (fun k ts m' => ∃ (D : List Int) (i : Nat) (y : Int), Hid (k = n - i ∧ i ≤ n ∧ D.length = n) ∧ ts 0 = .int .u64 y ∧ ts 1 = .int .i64 (n : Nat) ∧ ts 5 = .slice pd 0 n n ∧ ts 16 = .int .i64 (n : Nat) ∧ ts 17 = .int .i64 (i : Nat) ∧ m' = hupd m pd (rowU D n)) n
    ⟨List.replicate n 0, 0, x, .mk ⟨rfl, Nat.zero_le _, List.length_replicate⟩, ttt, ttt, ttt, ttt, ttt, rfl⟩ ?_ ?_
  · rintro k ts m2 ⟨D, i, y, H, t0, t1, t5, t16, t17, hm2⟩
    subst m2
    by_cases hi : i < n
    · have lt : (i : Int) < (n : Int) := by omega
      obtain ⟨c, hc⟩ : ∃ c : Nat, c = n - 1 - i := ⟨_, rfl⟩
      have w2 : IntKind.i64.wrap ((n : Int) - 1 - (i : Int)) = (c : Int) := by rw [wrap_i64 (by omega) (by omega)]; omega
      have w3 : IntKind.i64.wrap ((i : Int) + 1) = ((i + 1 : Nat) : Int) := by rw [wrap_i64 (by omega) (by omega)]; omega
      have hcD : c < D.length := by have := H.out; omega
      have l1 := rowU_len D
      have l2 : c < (D.flatMap encU).length := by omega
      have lc0 : ¬ (c : Int) < 0 := by omega
      have lc1 : (c : Int) < (n : Int) := by omega
      have s1 := fun z => rowU_set D c z hcD
      clear hcD hc l1
      repeat' (first | exact tf0 ‹_› | exact tf1 ‹_› | exact False.elim ‹_› | (with_reducible refine Al.intro ?_; intro pb hpb; (try simp only [hupd_none'] at hpb); (repeat rcases hpb with ⟨⟨hpx, hpy⟩, hpb⟩)) | with_reducible refine need ?_ | ((with_reducible first | apply frk0 | apply frk1 | apply frk2 | apply frk3 | apply frk4 | apply frk5 | apply frk6 | apply frk7 | apply frk8 | apply frk9) <;> intro h <;> try (exfalso; omega)) | with_reducible refine quiet_and ?_ ?_ | with_reducible refine awp_drawnA mixed (by decide +kernel) ?_ | ((fail_if_success with_reducible refine stp ?_); simp -implicitDefEqProofs only [go_sem, Nat.reduceEqDiff, Nat.reduceAdd, Nat.reduceLT, Nat.reduceMul, Nat.reduceSub, Nat.reduceLeDiff, ↓reduceIte, reduceCtorEq, ↓String.reduceEq, String.reduceNe, Int.reduceToNat, Int.reduceLT, Int.reduceLE, Int.reduceGT, Int.reduceGE, Int.reduceEq, Int.reduceNe, Int.reduceBEq, Int.reduceBNe, Int.reduceAdd, Int.reduceSub, Int.reduceMul, Int.reduceNeg,  rowU, *]))
      exact Again.intro ⟨n - (i + 1), by have := H.out; omega, _, Sub.refl _, D.set c (IntKind.u8.wrap (abits .and .u64 y 1)), i + 1, ashr .u64 y 1, .mk ⟨rfl, by omega, by rw [List.length_set]; exact H.out.2.2⟩, ttt, (by first | (simp only [upd, put, Nat.reduceEqDiff, ↓reduceIte, t1]; done) | (simp [upd, put, t1]; done) | rfl | (simp [upd, put, t1]; rfl)), (by first | (simp only [upd, put, Nat.reduceEqDiff, ↓reduceIte, t5]; done) | (simp [upd, put, t5]; done) | rfl | (simp [upd, put, t5]; rfl)), (by first | (simp only [upd, put, Nat.reduceEqDiff, ↓reduceIte, t16]; done) | (simp [upd, put, t16]; done) | rfl | (simp [upd, put, t16]; rfl)), ttt, by first | rfl | (simp only [rowU])⟩
    · have lt : ¬ (i : Int) < (n : Int) := by omega
      repeat' (first | exact tf0 ‹_› | exact tf1 ‹_› | exact False.elim ‹_› | (with_reducible refine Al.intro ?_; intro pb hpb; (try simp only [hupd_none'] at hpb); (repeat rcases hpb with ⟨⟨hpx, hpy⟩, hpb⟩)) | with_reducible refine need ?_ | ((with_reducible first | apply frk0 | apply frk1 | apply frk2 | apply frk3 | apply frk4 | apply frk5 | apply frk6 | apply frk7 | apply frk8 | apply frk9) <;> intro h <;> try (exfalso; omega)) | with_reducible refine quiet_and ?_ ?_ | with_reducible refine awp_drawnA mixed (by decide +kernel) ?_ | ((fail_if_success with_reducible refine stp ?_); simp -implicitDefEqProofs only [go_sem, Nat.reduceEqDiff, Nat.reduceAdd, Nat.reduceLT, Nat.reduceMul, Nat.reduceSub, Nat.reduceLeDiff, ↓reduceIte, reduceCtorEq, ↓String.reduceEq, String.reduceNe, Int.reduceToNat, Int.reduceLT, Int.reduceLE, Int.reduceGT, Int.reduceGE, Int.reduceEq, Int.reduceNe, Int.reduceBEq, Int.reduceBNe, Int.reduceAdd, Int.reduceSub, Int.reduceMul, Int.reduceNeg,  *]))
      exact Again.intro ⟨D, .mk H.out.2.2, (by first | (simp only [upd, put, Nat.reduceEqDiff, ↓reduceIte, t5]; done) | (simp [upd, put, t5]; done) | rfl | (simp [upd, put, t5]; rfl)), rfl⟩
  · rintro ts m2 ⟨D, H, t5, hm2⟩
    subst m2
    repeat' (first | exact tf0 ‹_› | exact tf1 ‹_› | exact False.elim ‹_› | (with_reducible refine Al.intro ?_; intro pb hpb; (try simp only [hupd_none'] at hpb); (repeat rcases hpb with ⟨⟨hpx, hpy⟩, hpb⟩)) | with_reducible refine need ?_ | ((with_reducible first | apply frk0 | apply frk1 | apply frk2 | apply frk3 | apply frk4 | apply frk5 | apply frk6 | apply frk7 | apply frk8 | apply frk9) <;> intro h <;> try (exfalso; omega)) | with_reducible refine quiet_and ?_ ?_ | with_reducible refine awp_drawnA mixed (by decide +kernel) ?_ | ((fail_if_success with_reducible refine stp ?_); simp -implicitDefEqProofs only [go_sem, Nat.reduceEqDiff, Nat.reduceAdd, Nat.reduceLT, Nat.reduceMul, Nat.reduceSub, Nat.reduceLeDiff, ↓reduceIte, reduceCtorEq, ↓String.reduceEq, String.reduceNe, Int.reduceToNat, Int.reduceLT, Int.reduceLE, Int.reduceGT, Int.reduceGE, Int.reduceEq, Int.reduceNe, Int.reduceBEq, Int.reduceBNe, Int.reduceAdd, Int.reduceSub, Int.reduceMul, Int.reduceNeg,  *]))
    refine ⟨_, Sub.refl _, ?_⟩
    (try rw [t5])
    exact HK.out pd _ ⟨D, H.out, .inr ⟨pd, _, by rw [hupd_at, if_pos rfl], [], [], n, n, by rw [H.out]; rfl, by simp [rowU], by simp, by rw [H.out]; exact Nat.le_refl _⟩, Sub.fresh (Sub.refl _) HP.out, fun b hb => by simp only [bOf, Option.some.injEq] at hb; rw [← hb]; exact HP.out⟩
theorem truthI_spec (G : Nat → AVal) (b : Bool) : Ans G 105 [.bool b] (.int .u32 (if b then 1 else 0)) := by
  intro m
  cases b
  all_goals (
    refine callWP_body Tryz.func105 rfl (N := 4) rfl (rs := [.tmp 2]) rfl en_105 (of_decide_eq_true rfl) ?_
    repeat' (first | exact tf0 ‹_› | exact tf1 ‹_› | exact False.elim ‹_› | (with_reducible refine Al.intro ?_; intro pb hpb; (try simp only [hupd_none'] at hpb); (repeat rcases hpb with ⟨⟨hpx, hpy⟩, hpb⟩)) | with_reducible refine need ?_ | ((with_reducible first | apply frk0 | apply frk1 | apply frk2 | apply frk3 | apply frk4 | apply frk5 | apply frk6 | apply frk7 | apply frk8 | apply frk9) <;> intro h <;> try (exfalso; omega)) | with_reducible refine quiet_and ?_ ?_ | with_reducible refine awp_drawnA mixed (by decide +kernel) ?_ | ((fail_if_success with_reducible refine stp ?_); simp -implicitDefEqProofs only [go_sem, Nat.reduceEqDiff, Nat.reduceAdd, Nat.reduceLT, Nat.reduceMul, Nat.reduceSub, Nat.reduceLeDiff, ↓reduceIte, reduceCtorEq, ↓String.reduceEq, String.reduceNe, Int.reduceToNat, Int.reduceLT, Int.reduceLE, Int.reduceGT, Int.reduceGE, Int.reduceEq, Int.reduceNe, Int.reduceBEq, Int.reduceBNe, Int.reduceAdd, Int.reduceSub, Int.reduceMul, Int.reduceNeg,  *]))
    refine ⟨m, (by (repeat refine Sub.fresh ?_ (by assumption)); exact Sub.refl m), ?_, rfl⟩
    rfl)
/-- The identifier of which the longest frame is reckoned: 0; short or long. -/
abbrev id0 (ext : Bool) : AVal := .agg [.bool ext, .int .u32 0]
theorem iright_spec (G : Nat → AVal) (ext : Bool) : Ans G 96 [id0 ext] (.bool true) := by
  intro m
  cases ext
  all_goals (
    refine callWP_body Tryz.func96 rfl (N := 12) rfl (rs := [.tmp 2]) rfl en_96 (of_decide_eq_true rfl) ?_
    repeat' (first | exact tf0 ‹_› | exact tf1 ‹_› | exact False.elim ‹_› | (with_reducible refine Al.intro ?_; intro pb hpb; (try simp only [hupd_none'] at hpb); (repeat rcases hpb with ⟨⟨hpx, hpy⟩, hpb⟩)) | with_reducible refine need ?_ | ((with_reducible first | apply frk0 | apply frk1 | apply frk2 | apply frk3 | apply frk4 | apply frk5 | apply frk6 | apply frk7 | apply frk8 | apply frk9) <;> intro h <;> try (exfalso; omega)) | with_reducible refine quiet_and ?_ ?_ | with_reducible refine awp_drawnA mixed (by decide +kernel) ?_ | ((fail_if_success with_reducible refine stp ?_); simp -implicitDefEqProofs only [go_sem, Nat.reduceEqDiff, Nat.reduceAdd, Nat.reduceLT, Nat.reduceMul, Nat.reduceSub, Nat.reduceLeDiff, ↓reduceIte, reduceCtorEq, ↓String.reduceEq, String.reduceNe, Int.reduceToNat, Int.reduceLT, Int.reduceLE, Int.reduceGT, Int.reduceGE, Int.reduceEq, Int.reduceNe, Int.reduceBEq, Int.reduceBNe, Int.reduceAdd, Int.reduceSub, Int.reduceMul, Int.reduceNeg,  *]))
    refine ⟨m, (by (repeat refine Sub.fresh ?_ (by assumption)); exact Sub.refl m), ?_, rfl⟩
    rfl)
theorem key_spec (G : Nat → AVal) (m : Heap) : CallWP Tryz.prog G 100 [id0 true, .bool false] m fun v m' => (∃ k, v = .int .u32 k) ∧ m' = m := by
  refine callWP_body Tryz.func100 rfl (N := 32) rfl (rs := [.tmp 4]) rfl en_100 (of_decide_eq_true rfl) ?_
  repeat' (first | exact tf0 ‹_› | exact tf1 ‹_› | exact False.elim ‹_› | (with_reducible refine Al.intro ?_; intro pb hpb; (try simp only [hupd_none'] at hpb); (repeat rcases hpb with ⟨⟨hpx, hpy⟩, hpb⟩)) | with_reducible refine need ?_ | ((with_reducible first | apply frk0 | apply frk1 | apply frk2 | apply frk3 | apply frk4 | apply frk5 | apply frk6 | apply frk7 | apply frk8 | apply frk9) <;> intro h <;> try (exfalso; omega)) | with_reducible refine quiet_and ?_ ?_ | with_reducible refine awp_drawnA mixed (by decide +kernel) ?_ | ((fail_if_success with_reducible refine stp ?_); simp -implicitDefEqProofs only [go_sem, Nat.reduceEqDiff, Nat.reduceAdd, Nat.reduceLT, Nat.reduceMul, Nat.reduceSub, Nat.reduceLeDiff, ↓reduceIte, reduceCtorEq, ↓String.reduceEq, String.reduceNe, Int.reduceToNat, Int.reduceLT, Int.reduceLE, Int.reduceGT, Int.reduceGE, Int.reduceEq, Int.reduceNe, Int.reduceBEq, Int.reduceBNe, Int.reduceAdd, Int.reduceSub, Int.reduceMul, Int.reduceNeg,  *]))
  refine CallWP.to (iright_spec G true _) ?_
  repeat' (first | exact tf0 ‹_› | exact tf1 ‹_› | exact False.elim ‹_› | (with_reducible refine Al.intro ?_; intro pb hpb; (try simp only [hupd_none'] at hpb); (repeat rcases hpb with ⟨⟨hpx, hpy⟩, hpb⟩)) | with_reducible refine need ?_ | ((with_reducible first | apply frk0 | apply frk1 | apply frk2 | apply frk3 | apply frk4 | apply frk5 | apply frk6 | apply frk7 | apply frk8 | apply frk9) <;> intro h <;> try (exfalso; omega)) | with_reducible refine quiet_and ?_ ?_ | with_reducible refine awp_drawnA mixed (by decide +kernel) ?_ | ((fail_if_success with_reducible refine stp ?_); simp -implicitDefEqProofs only [go_sem, Nat.reduceEqDiff, Nat.reduceAdd, Nat.reduceLT, Nat.reduceMul, Nat.reduceSub, Nat.reduceLeDiff, ↓reduceIte, reduceCtorEq, ↓String.reduceEq, String.reduceNe, Int.reduceToNat, Int.reduceLT, Int.reduceLE, Int.reduceGT, Int.reduceGE, Int.reduceEq, Int.reduceNe, Int.reduceBEq, Int.reduceBNe, Int.reduceAdd, Int.reduceSub, Int.reduceMul, Int.reduceNeg,  *]))
  refine awp_drawnE [(0, .q), (1, .q), (2, .q), (3, .q), (4, .q), (5, .q), (6, .q), (7, .q), (8, .q), (9, .q), (10, .q), (11, .k), (12, .q), (13, .q)] (fun i => match i with | 11 => .int .u32 0 | _ => .undef) (fun _ => False) (fun _ _ => False) mixed (by decide +kernel) ?_
  repeat' (first | exact tf0 ‹_› | exact tf1 ‹_› | exact False.elim ‹_› | (with_reducible refine Al.intro ?_; intro pb hpb; (try simp only [hupd_none'] at hpb); (repeat rcases hpb with ⟨⟨hpx, hpy⟩, hpb⟩)) | with_reducible refine need ?_ | ((with_reducible first | apply frk0 | apply frk1 | apply frk2 | apply frk3 | apply frk4 | apply frk5 | apply frk6 | apply frk7 | apply frk8 | apply frk9) <;> intro h <;> try (exfalso; omega)) | with_reducible refine quiet_and ?_ ?_ | with_reducible refine awp_drawnA mixed (by decide +kernel) ?_ | ((fail_if_success with_reducible refine stp ?_); simp -implicitDefEqProofs only [go_sem, Nat.reduceEqDiff, Nat.reduceAdd, Nat.reduceLT, Nat.reduceMul, Nat.reduceSub, Nat.reduceLeDiff, ↓reduceIte, reduceCtorEq, ↓String.reduceEq, String.reduceNe, Int.reduceToNat, Int.reduceLT, Int.reduceLE, Int.reduceGT, Int.reduceGE, Int.reduceEq, Int.reduceNe, Int.reduceBEq, Int.reduceBNe, Int.reduceAdd, Int.reduceSub, Int.reduceMul, Int.reduceNeg,  *]))
  · exact fun m' _ => truthI_spec G false m'
  exact ⟨m, (by (repeat refine Sub.fresh ?_ (by assumption)); exact Sub.refl m), ⟨_, rfl⟩, rfl⟩
theorem bits_spec (G : Nat → AVal) (m : Heap) (K : AVal → Heap → Prop) (hK : ∀ b m', NewU m 32 (.slice b 0 32 32) m' → K (.slice b 0 32 32) m') : CallWP Tryz.prog G 91 [id0 true, .bool false] m K := by
  have HK := Hid.mk hK
  clear hK
  refine callWP_body Tryz.func91 rfl (N := 19) rfl (rs := [.tmp 4]) rfl en_91 (of_decide_eq_true rfl) ?_
  repeat' (first | exact tf0 ‹_› | exact tf1 ‹_› | exact False.elim ‹_› | (with_reducible refine Al.intro ?_; intro pb hpb; (try simp only [hupd_none'] at hpb); (repeat rcases hpb with ⟨⟨hpx, hpy⟩, hpb⟩)) | with_reducible refine need ?_ | ((with_reducible first | apply frk0 | apply frk1 | apply frk2 | apply frk3 | apply frk4 | apply frk5 | apply frk6 | apply frk7 | apply frk8 | apply frk9) <;> intro h <;> try (exfalso; omega)) | with_reducible refine quiet_and ?_ ?_ | with_reducible refine awp_drawnA mixed (by decide +kernel) ?_ | ((fail_if_success with_reducible refine stp ?_); simp -implicitDefEqProofs only [go_sem, Nat.reduceEqDiff, Nat.reduceAdd, Nat.reduceLT, Nat.reduceMul, Nat.reduceSub, Nat.reduceLeDiff, ↓reduceIte, reduceCtorEq, ↓String.reduceEq, String.reduceNe, Int.reduceToNat, Int.reduceLT, Int.reduceLE, Int.reduceGT, Int.reduceGE, Int.reduceEq, Int.reduceNe, Int.reduceBEq, Int.reduceBNe, Int.reduceAdd, Int.reduceSub, Int.reduceMul, Int.reduceNeg,  *]))
  refine CallWP.to (iright_spec G true _) ?_
  repeat' (first | exact tf0 ‹_› | exact tf1 ‹_› | exact False.elim ‹_› | (with_reducible refine Al.intro ?_; intro pb hpb; (try simp only [hupd_none'] at hpb); (repeat rcases hpb with ⟨⟨hpx, hpy⟩, hpb⟩)) | with_reducible refine need ?_ | ((with_reducible first | apply frk0 | apply frk1 | apply frk2 | apply frk3 | apply frk4 | apply frk5 | apply frk6 | apply frk7 | apply frk8 | apply frk9) <;> intro h <;> try (exfalso; omega)) | with_reducible refine quiet_and ?_ ?_ | with_reducible refine awp_drawnA mixed (by decide +kernel) ?_ | ((fail_if_success with_reducible refine stp ?_); simp -implicitDefEqProofs only [go_sem, Nat.reduceEqDiff, Nat.reduceAdd, Nat.reduceLT, Nat.reduceMul, Nat.reduceSub, Nat.reduceLeDiff, ↓reduceIte, reduceCtorEq, ↓String.reduceEq, String.reduceNe, Int.reduceToNat, Int.reduceLT, Int.reduceLE, Int.reduceGT, Int.reduceGE, Int.reduceEq, Int.reduceNe, Int.reduceBEq, Int.reduceBNe, Int.reduceAdd, Int.reduceSub, Int.reduceMul, Int.reduceNeg,  *]))
  refine CallWP.mono (key_spec G _) ?_
  rintro v m1 ⟨⟨x, rfl⟩, rfl⟩
  repeat' (first | exact tf0 ‹_› | exact tf1 ‹_› | exact False.elim ‹_› | (with_reducible refine Al.intro ?_; intro pb hpb; (try simp only [hupd_none'] at hpb); (repeat rcases hpb with ⟨⟨hpx, hpy⟩, hpb⟩)) | with_reducible refine need ?_ | ((with_reducible first | apply frk0 | apply frk1 | apply frk2 | apply frk3 | apply frk4 | apply frk5 | apply frk6 | apply frk7 | apply frk8 | apply frk9) <;> intro h <;> try (exfalso; omega)) | with_reducible refine quiet_and ?_ ?_ | with_reducible refine awp_drawnA mixed (by decide +kernel) ?_ | ((fail_if_success with_reducible refine stp ?_); simp -implicitDefEqProofs only [go_sem, Nat.reduceEqDiff, Nat.reduceAdd, Nat.reduceLT, Nat.reduceMul, Nat.reduceSub, Nat.reduceLeDiff, ↓reduceIte, reduceCtorEq, ↓String.reduceEq, String.reduceNe, Int.reduceToNat, Int.reduceLT, Int.reduceLE, Int.reduceGT, Int.reduceGE, Int.reduceEq, Int.reduceNe, Int.reduceBEq, Int.reduceBNe, Int.reduceAdd, Int.reduceSub, Int.reduceMul, Int.reduceNeg,  *]))
  refine of_spec G _ 32 (by decide) (by decide) _ _ (fun b m1 hN => ?_)
  have HN := Hid.mk hN
  obtain ⟨C, hC, hs, hsub, hf⟩ := hN
  have hb := hsub pb _ (by rw [hupd_at, if_pos rfl])
  clear hC hs hsub hf
  repeat' (first | exact tf0 ‹_› | exact tf1 ‹_› | exact False.elim ‹_› | (with_reducible refine Al.intro ?_; intro pb hpb; (try simp only [hupd_none'] at hpb); (repeat rcases hpb with ⟨⟨hpx, hpy⟩, hpb⟩)) | with_reducible refine need ?_ | ((with_reducible first | apply frk0 | apply frk1 | apply frk2 | apply frk3 | apply frk4 | apply frk5 | apply frk6 | apply frk7 | apply frk8 | apply frk9) <;> intro h <;> try (exfalso; omega)) | with_reducible refine quiet_and ?_ ?_ | with_reducible refine awp_drawnA mixed (by decide +kernel) ?_ | ((fail_if_success with_reducible refine stp ?_); simp -implicitDefEqProofs only [go_sem, Nat.reduceEqDiff, Nat.reduceAdd, Nat.reduceLT, Nat.reduceMul, Nat.reduceSub, Nat.reduceLeDiff, ↓reduceIte, reduceCtorEq, ↓String.reduceEq, String.reduceNe, Int.reduceToNat, Int.reduceLT, Int.reduceLE, Int.reduceGT, Int.reduceGE, Int.reduceEq, Int.reduceNe, Int.reduceBEq, Int.reduceBNe, Int.reduceAdd, Int.reduceSub, Int.reduceMul, Int.reduceNeg,  *]))
  refine ⟨m1, Sub.refl _, ?_⟩
  obtain ⟨C, hC, hs, hsub, hf⟩ := HN.out
  exact HK.out b m1 ⟨C, hC, hs, subTrans (Sub.fresh (Sub.refl _) hpb) hsub, fun c hc => (Sub.fresh (Sub.refl _) hpb).gone (hf c hc)⟩
end Go.Proofs.YtdckcophbmnjjaaGreatDoor
namespace Go.Proofs.YtdckcophbmnjjaaGreatDoor
open Go Go.Proofs.YtdckcophbmnjjaaGreatDoor.Ab
open Go.Proofs (Tryz.prog)
set_option maxRecDepth 100000
def truthF (x : Int) : Int := if x = 0 then 0 else 1
theorem truth_spec (G : Nat → AVal) (x : Int) : Ans G 109 [.int .u8 x] (.int .u8 (truthF x)) := by
  intro m
  refine callWP_body Tryz.func109 rfl (N := 5) rfl (rs := [.tmp 2]) rfl en_109 (of_decide_eq_true rfl) ?_
  repeat' (first | exact tf0 ‹_› | exact tf1 ‹_› | exact False.elim ‹_› | (with_reducible refine Al.intro ?_; intro pb hpb; (try simp only [hupd_none'] at hpb); (repeat rcases hpb with ⟨⟨hpx, hpy⟩, hpb⟩)) | with_reducible refine need ?_ | ((with_reducible first | apply frk0 | apply frk1 | apply frk2 | apply frk3 | apply frk4 | apply frk5 | apply frk6 | apply frk7 | apply frk8 | apply frk9) <;> intro h <;> try (exfalso; omega)) | with_reducible refine quiet_and ?_ ?_ | with_reducible refine awp_drawnA mixed (by decide +kernel) ?_ | ((fail_if_success with_reducible refine stp ?_); simp -implicitDefEqProofs only [go_sem, Nat.reduceEqDiff, Nat.reduceAdd, Nat.reduceLT, Nat.reduceMul, Nat.reduceSub, Nat.reduceLeDiff, ↓reduceIte, reduceCtorEq, ↓String.reduceEq, String.reduceNe, Int.reduceToNat, Int.reduceLT, Int.reduceLE, Int.reduceGT, Int.reduceGE, Int.reduceEq, Int.reduceNe, Int.reduceBEq, Int.reduceBNe, Int.reduceAdd, Int.reduceSub, Int.reduceMul, Int.reduceNeg,  *]))
  all_goals refine ⟨m, (by (repeat refine Sub.fresh ?_ (by assumption)); exact Sub.refl m), ?_, rfl⟩
  · unfold truthF; rw [if_pos (by assumption)]
  · unfold truthF; rw [if_neg (by assumption)]
set_option maxHeartbeats 4000000 in
/-- Whatever is done with each bit. -/
theorem places1_spec (G : Nat → AVal) (C : List Int) (hl : C.length ≤ 100000) (v : AVal) {l pt : Nat} {m : Heap} (I : Nat → Heap → Prop) (K : AVal → Heap → Prop) (h0 : I 0 m)
    (hread : ∀ i m', I i m' → m' pt = some (.cells [v] 1) ∧ SlM encU 1 C v m')
    (hstep : ∀ i, i < C.length → ∀ m', I i m' → YieldWP Tryz.prog G l [.int .i64 (i : Nat), .int .u8 (truthF (C.getD i 0))] m' fun r m'' => r = .bool true ∧ I (i + 1) m'')
    (hK : ∀ m', I C.length m' → K (.tuple []) m') : CallWP Tryz.prog G 108 [.func (.yield l) [] [], .ptr pt 0] m K := by
  have HI := Hid.mk h0
  have HR := Hid.mk hread
  have HS := Hid.mk hstep
  have HK := Hid.mk hK
  obtain ⟨L, hL⟩ : ∃ L, L = C.length := ⟨_, rfl⟩
  have H0 := Hid.mk hL
  have lL : L ≤ 100000 := by omega
  obtain ⟨r1, r2⟩ := hread 0 m h0
  have hv : (v = .nils ∧ L = 0) ∨ ∃ b o cap, v = .slice b o L cap := by
    rcases r2.slv with ⟨a, b⟩ | h
    · exact .inl ⟨a, by rw [hL, b]; rfl⟩
    · rw [hL]; exact .inr h
  clear h0 hread hstep hK hL r2 hl
  rcases hv with ⟨rfl, hz⟩ | ⟨b, o, cap, rfl⟩
  · subst hz
    refine callWP_body Tryz.func108 rfl (N := 19) rfl (rs := []) rfl en_108 (of_decide_eq_true rfl) ?_
    repeat' (first | exact tf0 ‹_› | exact tf1 ‹_› | exact False.elim ‹_› | (with_reducible refine Al.intro ?_; intro pb hpb; (try simp only [hupd_none'] at hpb); (repeat rcases hpb with ⟨⟨hpx, hpy⟩, hpb⟩)) | with_reducible refine need ?_ | ((with_reducible first | apply frk0 | apply frk1 | apply frk2 | apply frk3 | apply frk4 | apply frk5 | apply frk6 | apply frk7 | apply frk8 | apply frk9) <;> intro h <;> try (exfalso; omega)) | with_reducible refine quiet_and ?_ ?_ | with_reducible refine awp_drawnA mixed (by decide +kernel) ?_ | ((fail_if_success with_reducible refine stp ?_); simp -implicitDefEqProofs only [go_sem, Nat.reduceEqDiff, Nat.reduceAdd, Nat.reduceLT, Nat.reduceMul, Nat.reduceSub, Nat.reduceLeDiff, ↓reduceIte, reduceCtorEq, ↓String.reduceEq, String.reduceNe, Int.reduceToNat, Int.reduceLT, Int.reduceLE, Int.reduceGT, Int.reduceGE, Int.reduceEq, Int.reduceNe, Int.reduceBEq, Int.reduceBNe, Int.reduceAdd, Int.reduceSub, Int.reduceMul, Int.reduceNeg,  *]))
    refine awp_loopP 0 (fun ts m' => I 0 m') (fun k ts m' => ts 6 = .int .i64 0 ∧ ts 7 = .int .i64 0 ∧ m' = m) 0 ⟨ttt, ttt, rfl⟩ ?_ ?_
    · rintro k ts m2 ⟨t6, t7, hm2⟩
      subst m2
      repeat' (first | exact tf0 ‹_› | exact tf1 ‹_› | exact False.elim ‹_› | (with_reducible refine Al.intro ?_; intro pb hpb; (try simp only [hupd_none'] at hpb); (repeat rcases hpb with ⟨⟨hpx, hpy⟩, hpb⟩)) | with_reducible refine need ?_ | ((with_reducible first | apply frk0 | apply frk1 | apply frk2 | apply frk3 | apply frk4 | apply frk5 | apply frk6 | apply frk7 | apply frk8 | apply frk9) <;> intro h <;> try (exfalso; omega)) | with_reducible refine quiet_and ?_ ?_ | with_reducible refine awp_drawnA mixed (by decide +kernel) ?_ | ((fail_if_success with_reducible refine stp ?_); simp -implicitDefEqProofs only [go_sem, Nat.reduceEqDiff, Nat.reduceAdd, Nat.reduceLT, Nat.reduceMul, Nat.reduceSub, Nat.reduceLeDiff, ↓reduceIte, reduceCtorEq, ↓String.reduceEq, String.reduceNe, Int.reduceToNat, Int.reduceLT, Int.reduceLE, Int.reduceGT, Int.reduceGE, Int.reduceEq, Int.reduceNe, Int.reduceBEq, Int.reduceBNe, Int.reduceAdd, Int.reduceSub, Int.reduceMul, Int.reduceNeg,  *]))
      exact Again.intro HI.out
    · rintro ts m2 hi
      have HI2 := Hid.mk hi
      clear hi
      repeat' (first | exact tf0 ‹_› | exact tf1 ‹_› | exact False.elim ‹_› | (with_reducible refine Al.intro ?_; intro pb hpb; (try simp only [hupd_none'] at hpb); (repeat rcases hpb with ⟨⟨hpx, hpy⟩, hpb⟩)) | with_reducible refine need ?_ | ((with_reducible first | apply frk0 | apply frk1 | apply frk2 | apply frk3 | apply frk4 | apply frk5 | apply frk6 | apply frk7 | apply frk8 | apply frk9) <;> intro h <;> try (exfalso; omega)) | with_reducible refine quiet_and ?_ ?_ | with_reducible refine awp_drawnA mixed (by decide +kernel) ?_ | ((fail_if_success with_reducible refine stp ?_); simp -implicitDefEqProofs only [go_sem, Nat.reduceEqDiff, Nat.reduceAdd, Nat.reduceLT, Nat.reduceMul, Nat.reduceSub, Nat.reduceLeDiff, ↓reduceIte, reduceCtorEq, ↓String.reduceEq, String.reduceNe, Int.reduceToNat, Int.reduceLT, Int.reduceLE, Int.reduceGT, Int.reduceGE, Int.reduceEq, Int.reduceNe, Int.reduceBEq, Int.reduceBNe, Int.reduceAdd, Int.reduceSub, Int.reduceMul, Int.reduceNeg,  *]))
      exact ⟨_, Sub.refl _, HK.out _ (by rw [← H0.out]; exact HI2.out)⟩
  · refine callWP_body Tryz.func108 rfl (N := 19) rfl (rs := []) rfl en_108 (of_decide_eq_true rfl) ?_
    repeat' (first | exact tf0 ‹_› | exact tf1 ‹_› | exact False.elim ‹_› | (with_reducible refine Al.intro ?_; intro pb hpb; (try simp only [hupd_none'] at hpb); (repeat rcases hpb with ⟨⟨hpx, hpy⟩, hpb⟩)) | with_reducible refine need ?_ | ((with_reducible first | apply frk0 | apply frk1 | apply frk2 | apply frk3 | apply frk4 | apply frk5 | apply frk6 | apply frk7 | apply frk8 | apply frk9) <;> intro h <;> try (exfalso; omega)) | with_reducible refine quiet_and ?_ ?_ | with_reducible refine awp_drawnA mixed (by decide +kernel) ?_ | ((fail_if_success with_reducible refine stp ?_); simp -implicitDefEqProofs only [go_sem, Nat.reduceEqDiff, Nat.reduceAdd, Nat.reduceLT, Nat.reduceMul, Nat.reduceSub, Nat.reduceLeDiff, ↓reduceIte, reduceCtorEq, ↓String.reduceEq, String.reduceNe, Int.reduceToNat, Int.reduceLT, Int.reduceLE, Int.reduceGT, Int.reduceGE, Int.reduceEq, Int.reduceNe, Int.reduceBEq, Int.reduceBNe, Int.reduceAdd, Int.reduceSub, Int.reduceMul, Int.reduceNeg,  *]))
    refine awp_loopP 0 (fun ts m' => Hid (I L m')) (fun k ts m' => ∃ i : Nat, Hid (k = L - i ∧ i ≤ L ∧ I i m') ∧ ts 0 = .func (.yield l) [] [] ∧ ts 5 = .slice b o L cap ∧ ts 6 = .int .i64 (L : Nat) ∧ ts 7 = .int .i64 (i : Nat)) L ⟨0, .mk ⟨rfl, Nat.zero_le _, HI.out⟩, ttt, ttt, ttt, ttt⟩ ?_ ?_
    · clear r1
      rintro k ts m2 ⟨i, H, t0, t5, t6, t7⟩
      by_cases hi : i < L
      · have lt : (i : Int) < (L : Int) := by omega
        have hiC : i < C.length := by have := H0.out; omega
        obtain ⟨-, hs⟩ := HR.out i m2 H.out.2.2
        obtain ⟨pre, post, N, rfl, -, hrow, -, -⟩ := slm_slice hs
        obtain ⟨x, hx⟩ : ∃ x, C.getD i 0 = x := ⟨_, rfl⟩
        have g1 : (pre ++ (C.flatMap encU ++ post)).getD (pre.length + i) .undef = .int .u8 x := by
          have := row_at1 (f := fun x => AVal.int .u8 x) C pre post i hiC
          rw [show (default : Int) = 0 from rfl, hx] at this
          exact this
        have l1 : pre.length + i < (pre ++ (C.flatMap encU ++ post)).length := by have := rowU_len C; simp only [List.length_append]; omega
        have w1 : IntKind.i64.wrap ((i : Int) + 1) = ((i + 1 : Nat) : Int) := by rw [wrap_i64 (by omega) (by omega)]; omega
        have HY := Hid.mk (HS.out i hiC m2 H.out.2.2)
        rw [hx] at HY
        clear hs hiC hx
        repeat' (first | exact tf0 ‹_› | exact tf1 ‹_› | exact False.elim ‹_› | (with_reducible refine Al.intro ?_; intro pb hpb; (try simp only [hupd_none'] at hpb); (repeat rcases hpb with ⟨⟨hpx, hpy⟩, hpb⟩)) | with_reducible refine need ?_ | ((with_reducible first | apply frk0 | apply frk1 | apply frk2 | apply frk3 | apply frk4 | apply frk5 | apply frk6 | apply frk7 | apply frk8 | apply frk9) <;> intro h <;> try (exfalso; omega)) | with_reducible refine quiet_and ?_ ?_ | with_reducible refine awp_drawnA mixed (by decide +kernel) ?_ | ((fail_if_success with_reducible refine stp ?_); simp -implicitDefEqProofs only [go_sem, Nat.reduceEqDiff, Nat.reduceAdd, Nat.reduceLT, Nat.reduceMul, Nat.reduceSub, Nat.reduceLeDiff, ↓reduceIte, reduceCtorEq, ↓String.reduceEq, String.reduceNe, Int.reduceToNat, Int.reduceLT, Int.reduceLE, Int.reduceGT, Int.reduceGE, Int.reduceEq, Int.reduceNe, Int.reduceBEq, Int.reduceBNe, Int.reduceAdd, Int.reduceSub, Int.reduceMul, Int.reduceNeg,  *]))
        refine CallWP.to (truth_spec G x _) ?_
        repeat' (first | exact tf0 ‹_› | exact tf1 ‹_› | exact False.elim ‹_› | (with_reducible refine Al.intro ?_; intro pb hpb; (try simp only [hupd_none'] at hpb); (repeat rcases hpb with ⟨⟨hpx, hpy⟩, hpb⟩)) | with_reducible refine need ?_ | ((with_reducible first | apply frk0 | apply frk1 | apply frk2 | apply frk3 | apply frk4 | apply frk5 | apply frk6 | apply frk7 | apply frk8 | apply frk9) <;> intro h <;> try (exfalso; omega)) | with_reducible refine quiet_and ?_ ?_ | with_reducible refine awp_drawnA mixed (by decide +kernel) ?_ | ((fail_if_success with_reducible refine stp ?_); simp -implicitDefEqProofs only [go_sem, Nat.reduceEqDiff, Nat.reduceAdd, Nat.reduceLT, Nat.reduceMul, Nat.reduceSub, Nat.reduceLeDiff, ↓reduceIte, reduceCtorEq, ↓String.reduceEq, String.reduceNe, Int.reduceToNat, Int.reduceLT, Int.reduceLE, Int.reduceGT, Int.reduceGE, Int.reduceEq, Int.reduceNe, Int.reduceBEq, Int.reduceBNe, Int.reduceAdd, Int.reduceSub, Int.reduceMul, Int.reduceNeg,  *]))
        refine YieldWP.mono HY.out ?_
        rintro r m3 ⟨rfl, hI⟩
        have HI3 := Hid.mk hI
        clear hI hrow
        repeat' (first | exact tf0 ‹_› | exact tf1 ‹_› | exact False.elim ‹_› | (with_reducible refine Al.intro ?_; intro pb hpb; (try simp only [hupd_none'] at hpb); (repeat rcases hpb with ⟨⟨hpx, hpy⟩, hpb⟩)) | with_reducible refine need ?_ | ((with_reducible first | apply frk0 | apply frk1 | apply frk2 | apply frk3 | apply frk4 | apply frk5 | apply frk6 | apply frk7 | apply frk8 | apply frk9) <;> intro h <;> try (exfalso; omega)) | with_reducible refine quiet_and ?_ ?_ | with_reducible refine awp_drawnA mixed (by decide +kernel) ?_ | ((fail_if_success with_reducible refine stp ?_); simp -implicitDefEqProofs only [go_sem, Nat.reduceEqDiff, Nat.reduceAdd, Nat.reduceLT, Nat.reduceMul, Nat.reduceSub, Nat.reduceLeDiff, ↓reduceIte, reduceCtorEq, ↓String.reduceEq, String.reduceNe, Int.reduceToNat, Int.reduceLT, Int.reduceLE, Int.reduceGT, Int.reduceGE, Int.reduceEq, Int.reduceNe, Int.reduceBEq, Int.reduceBNe, Int.reduceAdd, Int.reduceSub, Int.reduceMul, Int.reduceNeg,  *]))
        exact Again.intro ⟨L - (i + 1), by have := H.out; omega, _, Sub.refl _, i + 1, .mk ⟨rfl, by omega, HI3.out⟩, (by first | (simp only [upd, put, Nat.reduceEqDiff, ↓reduceIte, t0]; done) | (simp [upd, put, t0]; done) | rfl | (simp [upd, put, t0]; rfl)), (by first | (simp only [upd, put, Nat.reduceEqDiff, ↓reduceIte, t5]; done) | (simp [upd, put, t5]; done) | rfl | (simp [upd, put, t5]; rfl)), (by first | (simp only [upd, put, Nat.reduceEqDiff, ↓reduceIte, t6]; done) | (simp [upd, put, t6]; done) | rfl | (simp [upd, put, t6]; rfl)), ttt⟩
      · have lt : ¬ (i : Int) < (L : Int) := by omega
        repeat' (first | exact tf0 ‹_› | exact tf1 ‹_› | exact False.elim ‹_› | (with_reducible refine Al.intro ?_; intro pb hpb; (try simp only [hupd_none'] at hpb); (repeat rcases hpb with ⟨⟨hpx, hpy⟩, hpb⟩)) | with_reducible refine need ?_ | ((with_reducible first | apply frk0 | apply frk1 | apply frk2 | apply frk3 | apply frk4 | apply frk5 | apply frk6 | apply frk7 | apply frk8 | apply frk9) <;> intro h <;> try (exfalso; omega)) | with_reducible refine quiet_and ?_ ?_ | with_reducible refine awp_drawnA mixed (by decide +kernel) ?_ | ((fail_if_success with_reducible refine stp ?_); simp -implicitDefEqProofs only [go_sem, Nat.reduceEqDiff, Nat.reduceAdd, Nat.reduceLT, Nat.reduceMul, Nat.reduceSub, Nat.reduceLeDiff, ↓reduceIte, reduceCtorEq, ↓String.reduceEq, String.reduceNe, Int.reduceToNat, Int.reduceLT, Int.reduceLE, Int.reduceGT, Int.reduceGE, Int.reduceEq, Int.reduceNe, Int.reduceBEq, Int.reduceBNe, Int.reduceAdd, Int.reduceSub, Int.reduceMul, Int.reduceNeg,  *]))
        exact Again.intro (.mk (by have h := H.out.2.2; rwa [show i = L by have := H.out; omega] at h))
    · rintro ts m2 H
      repeat' (first | exact tf0 ‹_› | exact tf1 ‹_› | exact False.elim ‹_› | (with_reducible refine Al.intro ?_; intro pb hpb; (try simp only [hupd_none'] at hpb); (repeat rcases hpb with ⟨⟨hpx, hpy⟩, hpb⟩)) | with_reducible refine need ?_ | ((with_reducible first | apply frk0 | apply frk1 | apply frk2 | apply frk3 | apply frk4 | apply frk5 | apply frk6 | apply frk7 | apply frk8 | apply frk9) <;> intro h <;> try (exfalso; omega)) | with_reducible refine quiet_and ?_ ?_ | with_reducible refine awp_drawnA mixed (by decide +kernel) ?_ | ((fail_if_success with_reducible refine stp ?_); simp -implicitDefEqProofs only [go_sem, Nat.reduceEqDiff, Nat.reduceAdd, Nat.reduceLT, Nat.reduceMul, Nat.reduceSub, Nat.reduceLeDiff, ↓reduceIte, reduceCtorEq, ↓String.reduceEq, String.reduceNe, Int.reduceToNat, Int.reduceLT, Int.reduceLE, Int.reduceGT, Int.reduceGE, Int.reduceEq, Int.reduceNe, Int.reduceBEq, Int.reduceBNe, Int.reduceAdd, Int.reduceSub, Int.reduceMul, Int.reduceNeg,  *]))
      exact ⟨_, Sub.refl _, HK.out _ (by rw [← H0.out]; exact H.out)⟩
/-- The function that hands them out. -/
theorem places_spec (G : Nat → AVal) (v : AVal) (hv : v = .nils ∨ ∃ b o l c, v = .slice b o l c) (m : Heap) (K : AVal → Heap → Prop) (hK : ∀ pt, m pt = none → K (.func (.func 108) [] [.ptr pt 0]) (hupd m pt (.cells [v] 1))) : CallWP Tryz.prog G 106 [v] m K := by
  have HK := Hid.mk hK
  clear hK
  rcases hv with rfl | ⟨b, o, l, c, rfl⟩
  all_goals (
    refine callWP_body Tryz.func106 rfl (N := 4) rfl (rs := [.tmp 2]) rfl en_106 (of_decide_eq_true rfl) ?_
    repeat' (first | exact tf0 ‹_› | exact tf1 ‹_› | exact False.elim ‹_› | (with_reducible refine Al.intro ?_; intro pb hpb; (try simp only [hupd_none'] at hpb); (repeat rcases hpb with ⟨⟨hpx, hpy⟩, hpb⟩)) | with_reducible refine need ?_ | ((with_reducible first | apply frk0 | apply frk1 | apply frk2 | apply frk3 | apply frk4 | apply frk5 | apply frk6 | apply frk7 | apply frk8 | apply frk9) <;> intro h <;> try (exfalso; omega)) | with_reducible refine quiet_and ?_ ?_ | with_reducible refine awp_drawnA mixed (by decide +kernel) ?_ | ((fail_if_success with_reducible refine stp ?_); simp -implicitDefEqProofs only [go_sem, Nat.reduceEqDiff, Nat.reduceAdd, Nat.reduceLT, Nat.reduceMul, Nat.reduceSub, Nat.reduceLeDiff, ↓reduceIte, reduceCtorEq, ↓String.reduceEq, String.reduceNe, Int.reduceToNat, Int.reduceLT, Int.reduceLE, Int.reduceGT, Int.reduceGE, Int.reduceEq, Int.reduceNe, Int.reduceBEq, Int.reduceBNe, Int.reduceAdd, Int.reduceSub, Int.reduceMul, Int.reduceNeg,  *]))
    exact ⟨_, Sub.refl _, HK.out pb hpb⟩)
theorem slm_form {α : Type} {enc : α → List AVal} {sz : Nat} {C : List α} {v : AVal} {m : Heap} (h : SlM enc sz C v m) : v = .nils ∨ ∃ b o l c, v = .slice b o l c := by
  rcases h.slv with ⟨h, -⟩ | ⟨b, o, c, h⟩
  · exact .inl h
  · exact .inr ⟨b, o, _, c, h⟩
end Go.Proofs.YtdckcophbmnjjaaGreatDoor
namespace Go.Proofs.YtdckcophbmnjjaaGreatDoor
open Go Go.Proofs.YtdckcophbmnjjaaGreatDoor.Ab
open Go.Proofs (Tryz.prog)
set_option maxRecDepth 100000
set_option maxHeartbeats 4000000 in
theorem clean_spec (G : Nat → AVal) (C : List Int) (hl : C.length ≤ 100000) (hp : 0 < C.length) (v : AVal) (m : Heap) (hs : SlM encU 1 C v m) (K : AVal → Heap → Prop) (hK : ∀ b m', NewU m C.length (.slice b 0 C.length C.length) m' → K (.slice b 0 C.length C.length) m') : CallWP Tryz.prog G 101 [v] m K := by
  have HK := Hid.mk hK
  have HS := Hid.mk hs
  have HL := Hid.mk hl
  obtain ⟨L, hL⟩ : ∃ L, L = C.length := ⟨_, rfl⟩
  have H0 := Hid.mk hL
  have lL : L ≤ 100000 := by omega
  rw [← hL] at HK
  have hv : (v = .nils ∧ L = 0) ∨ ∃ b o cap, v = .slice b o L cap := by
    rcases hs.slv with ⟨a, b⟩ | h
    · exact .inl ⟨a, by rw [hL, b]; rfl⟩
    · rw [hL]; exact .inr h
  rw [← hL] at hp
  clear hK hs hL hl
  have hf := slm_form HS.out
  have HF := Hid.mk hf
  clear hf
  rcases hv with ⟨rfl, hz⟩ | ⟨b, o, cap, rfl⟩
  · omega
  · refine callWP_body Tryz.func101 rfl (N := 18) rfl (rs := [.tmp 2]) rfl en_101 (of_decide_eq_true rfl) ?_
    repeat' (first | exact tf0 ‹_› | exact tf1 ‹_› | exact False.elim ‹_› | (with_reducible refine Al.intro ?_; intro pb hpb; (try simp only [hupd_none'] at hpb); (repeat rcases hpb with ⟨⟨hpx, hpy⟩, hpb⟩)) | with_reducible refine need ?_ | ((with_reducible first | apply frk0 | apply frk1 | apply frk2 | apply frk3 | apply frk4 | apply frk5 | apply frk6 | apply frk7 | apply frk8 | apply frk9) <;> intro h <;> try (exfalso; omega)) | with_reducible refine quiet_and ?_ ?_ | with_reducible refine awp_drawnA mixed (by decide +kernel) ?_ | ((fail_if_success with_reducible refine stp ?_); simp -implicitDefEqProofs only [go_sem, Nat.reduceEqDiff, Nat.reduceAdd, Nat.reduceLT, Nat.reduceMul, Nat.reduceSub, Nat.reduceLeDiff, ↓reduceIte, reduceCtorEq, ↓String.reduceEq, String.reduceNe, Int.reduceToNat, Int.reduceLT, Int.reduceLE, Int.reduceGT, Int.reduceGE, Int.reduceEq, Int.reduceNe, Int.reduceBEq, Int.reduceBNe, Int.reduceAdd, Int.reduceSub, Int.reduceMul, Int.reduceNeg,  *]))
    rename_i pr hpr
    have npr : pr ≠ pb := hpy
    have npl : pb ≠ pr := hpx
    rw [rowU_rep]
    have HPr := Hid.mk hpr
    have HPb := Hid.mk hpb
    clear hpr hpb
    refine places_spec G _ HF.out _ _ (fun pt hpt => ?_)
    simp only [hupd_none'] at hpt
    obtain ⟨⟨q1, q2⟩, ⟨q3, q4⟩, q5⟩ := hpt
    have HPt := Hid.mk q5
    clear q5
    repeat' (first | exact tf0 ‹_› | exact tf1 ‹_› | exact False.elim ‹_› | (with_reducible refine Al.intro ?_; intro pb hpb; (try simp only [hupd_none'] at hpb); (repeat rcases hpb with ⟨⟨hpx, hpy⟩, hpb⟩)) | with_reducible refine need ?_ | ((with_reducible first | apply frk0 | apply frk1 | apply frk2 | apply frk3 | apply frk4 | apply frk5 | apply frk6 | apply frk7 | apply frk8 | apply frk9) <;> intro h <;> try (exfalso; omega)) | with_reducible refine quiet_and ?_ ?_ | with_reducible refine awp_drawnA mixed (by decide +kernel) ?_ | ((fail_if_success with_reducible refine stp ?_); simp -implicitDefEqProofs only [go_sem, Nat.reduceEqDiff, Nat.reduceAdd, Nat.reduceLT, Nat.reduceMul, Nat.reduceSub, Nat.reduceLeDiff, ↓reduceIte, reduceCtorEq, ↓String.reduceEq, String.reduceNe, Int.reduceToNat, Int.reduceLT, Int.reduceLE, Int.reduceGT, Int.reduceGE, Int.reduceEq, Int.reduceNe, Int.reduceBEq, Int.reduceBNe, Int.reduceAdd, Int.reduceSub, Int.reduceMul, Int.reduceNeg,  *]))
    refine awp_range (gf := 108) (fs := []) (cs := [.ptr pt 0]) (by rfl) en_108 (fun l hl => ?_)
    simp only [hupd_none'] at hl
    obtain ⟨⟨p1, p2⟩, ⟨p3, p4⟩, ⟨p5, p6⟩, p7⟩ := hl
    have HPl := Hid.mk p7
    clear p7
    have HSub : Hid (∀ (D : List Int) (LB : ABlk), Sub m (hupd (hupd (hupd (hupd m pr (rowU D L)) pb (.cells [.slice pr 0 L L] 1)) pt (.cells [.slice b o L cap] 1)) l LB)) := .mk (fun D LB x y hx => by
      have e1 : x ≠ l := fun e => by rw [e, HPl.out] at hx; cases hx
      have e2 : x ≠ pt := fun e => by rw [e, HPt.out] at hx; cases hx
      have e3 : x ≠ pb := fun e => by rw [e, HPb.out] at hx; cases hx
      have e4 : x ≠ pr := fun e => by rw [e, HPr.out] at hx; cases hx
      rw [hupd_ne e1, hupd_ne e2, hupd_ne e3, hupd_ne e4]; exact hx)
    refine places1_spec G C HL.out (.slice b o L cap) (fun i m' => ∃ D : List Int, Hid (D.length = L) ∧ m' = hupd (hupd (hupd (hupd m pr (rowU D L)) pb (.cells [.slice pr 0 L L] 1)) pt (.cells [.slice b o L cap] 1)) l _) _ ⟨List.replicate L 0, .mk List.length_replicate, rfl⟩ ?_ ?_ ?_
    · rintro i m' ⟨D, hD, rfl⟩
      refine ⟨by rw [hupd_ne (by assumption), hupd_at, if_pos rfl], HS.out.into (HSub.out _ _)⟩
    · rintro i hi m' ⟨D, hD, rfl⟩
      have hiL : i < L := by have := H0.out; omega
      have lt : (i : Int) < (L : Int) := by omega
      have hiD : i < D.length := by have := hD.out; omega
      have l1 := rowU_len D
      have l2 : i < (D.flatMap encU).length := by omega
      have s1 := fun z => rowU_set D i z hiD
      clear l1 hiD hi
      refine yield_of (by rw [hupd_at, if_pos rfl]) rfl (by decide +kernel) ?_
      repeat' (first | exact tf0 ‹_› | exact tf1 ‹_› | exact False.elim ‹_› | (with_reducible refine Al.intro ?_; intro pb hpb; (try simp only [hupd_none'] at hpb); (repeat rcases hpb with ⟨⟨hpx, hpy⟩, hpb⟩)) | with_reducible refine need ?_ | ((with_reducible first | apply frk0 | apply frk1 | apply frk2 | apply frk3 | apply frk4 | apply frk5 | apply frk6 | apply frk7 | apply frk8 | apply frk9) <;> intro h <;> try (exfalso; omega)) | with_reducible refine quiet_and ?_ ?_ | with_reducible refine awp_drawnA mixed (by decide +kernel) ?_ | ((fail_if_success with_reducible refine stp ?_); simp -implicitDefEqProofs only [go_sem, Nat.reduceEqDiff, Nat.reduceAdd, Nat.reduceLT, Nat.reduceMul, Nat.reduceSub, Nat.reduceLeDiff, ↓reduceIte, reduceCtorEq, ↓String.reduceEq, String.reduceNe, Int.reduceToNat, Int.reduceLT, Int.reduceLE, Int.reduceGT, Int.reduceGE, Int.reduceEq, Int.reduceNe, Int.reduceBEq, Int.reduceBNe, Int.reduceAdd, Int.reduceSub, Int.reduceMul, Int.reduceNeg,  rowU, *]))
      refine ⟨by rw [hupd_ne (by assumption), hupd_at, if_pos rfl], rfl, D.set i (truthF (C.getD i 0)), .mk (by rw [List.length_set]; exact hD.out), ?_⟩
      funext z
      simp only [hupd_at, rowU]
      by_cases z1 : z = l
      · rw [if_pos z1, if_pos z1]
      · by_cases z2 : z = pr
        · rw [if_neg z1, if_pos z2, if_neg z1, if_neg (by rw [z2]; assumption), if_neg (by rw [z2]; assumption), if_pos z2]
        · rw [if_neg z1, if_neg z2, if_neg z1, if_neg z1, if_neg z2, if_neg z2]
    · rintro m' ⟨D, hD, rfl⟩
      refine ⟨_, _, _, _, _, _, _, hupd (hupd m pr (rowU D L)) pb (.cells [.slice pr 0 L L] 1), by rw [hupd_at, if_pos rfl], by decide, ?_, ?_, ?_⟩
      · intro x y hx
        by_cases e1 : x = pr
        · rw [e1, hupd_ne (by assumption), hupd_at, if_pos rfl] at hx
          rw [e1, hupd_ne (by assumption), hupd_ne (by assumption), hupd_ne (by assumption), hupd_at, if_pos rfl]; exact hx
        · by_cases e2 : x = pb
          · rw [e2, hupd_at, if_pos rfl] at hx
            rw [e2, hupd_ne (by assumption), hupd_ne (by assumption), hupd_at, if_pos rfl]; exact hx
          · rw [hupd_ne e2, hupd_ne e1] at hx
            rw [hupd_ne (fun e => by rw [e, HPl.out] at hx; cases hx), hupd_ne (fun e => by rw [e, HPt.out] at hx; cases hx), hupd_ne e2, hupd_ne e1]; exact hx
      · rw [hupd_ne (by assumption), hupd_ne (by assumption)]; exact HPl.out
      · show blockA 0 _ _ _ _
        repeat' (first | exact tf0 ‹_› | exact tf1 ‹_› | exact False.elim ‹_› | (with_reducible refine Al.intro ?_; intro pb hpb; (try simp only [hupd_none'] at hpb); (repeat rcases hpb with ⟨⟨hpx, hpy⟩, hpb⟩)) | with_reducible refine need ?_ | ((with_reducible first | apply frk0 | apply frk1 | apply frk2 | apply frk3 | apply frk4 | apply frk5 | apply frk6 | apply frk7 | apply frk8 | apply frk9) <;> intro h <;> try (exfalso; omega)) | with_reducible refine quiet_and ?_ ?_ | with_reducible refine awp_drawnA mixed (by decide +kernel) ?_ | ((fail_if_success with_reducible refine stp ?_); simp -implicitDefEqProofs only [go_sem, Nat.reduceEqDiff, Nat.reduceAdd, Nat.reduceLT, Nat.reduceMul, Nat.reduceSub, Nat.reduceLeDiff, ↓reduceIte, reduceCtorEq, ↓String.reduceEq, String.reduceNe, Int.reduceToNat, Int.reduceLT, Int.reduceLE, Int.reduceGT, Int.reduceGE, Int.reduceEq, Int.reduceNe, Int.reduceBEq, Int.reduceBNe, Int.reduceAdd, Int.reduceSub, Int.reduceMul, Int.reduceNeg,  *]))
        refine ⟨_, Sub.refl _, ?_⟩
        have sub1 : Sub m (hupd (hupd m pr (rowU D L)) pb (.cells [.slice pr 0 L L] 1)) := Sub.fresh (Sub.fresh (Sub.refl _) HPr.out) HPb.out
        exact HK.out pr _ ⟨D, hD.out, .inr ⟨pr, _, by rw [hupd_ne (by assumption), hupd_at, if_pos rfl], [], [], L, L, by rw [hD.out]; rfl, by simp [rowU], by simp, by rw [hD.out]; exact Nat.le_refl _⟩, sub1, fun b hb => by simp only [bOf, Option.some.injEq] at hb; rw [← hb]; exact HPr.out⟩
set_option maxHeartbeats 4000000 in
theorem number_spec (G : Nat → AVal) (C : List Int) (hl : C.length ≤ 100000) (hp : 0 < C.length) (v : AVal) (m : Heap) (hs : SlM encU 1 C v m) (K : AVal → Heap → Prop) (hK : ∀ x, K (.int .u64 x) m) : CallWP Tryz.prog G 107 [v] m K := by
  have HK := Hid.mk hK
  have HS := Hid.mk hs
  have HL := Hid.mk hl
  obtain ⟨b, o, cap, rfl⟩ : ∃ b o cap, v = .slice b o C.length cap := by
    rcases hs.slv with ⟨a, b⟩ | h
    · rw [b] at hp; simp at hp
    · exact h
  obtain ⟨L, hL⟩ : ∃ L, L = C.length := ⟨_, rfl⟩
  have H0 := Hid.mk hL
  have lL : L ≤ 100000 := by omega
  rw [← hL] at HS ⊢
  have hf := slm_form HS.out
  have HF := Hid.mk hf
  clear hK hs hL hl hf hp
  refine callWP_body Tryz.func107 rfl (N := 16) rfl (rs := [.tmp 2]) rfl en_107 (of_decide_eq_true rfl) ?_
  repeat' (first | exact tf0 ‹_› | exact tf1 ‹_› | exact False.elim ‹_› | (with_reducible refine Al.intro ?_; intro pb hpb; (try simp only [hupd_none'] at hpb); (repeat rcases hpb with ⟨⟨hpx, hpy⟩, hpb⟩)) | with_reducible refine need ?_ | ((with_reducible first | apply frk0 | apply frk1 | apply frk2 | apply frk3 | apply frk4 | apply frk5 | apply frk6 | apply frk7 | apply frk8 | apply frk9) <;> intro h <;> try (exfalso; omega)) | with_reducible refine quiet_and ?_ ?_ | with_reducible refine awp_drawnA mixed (by decide +kernel) ?_ | ((fail_if_success with_reducible refine stp ?_); simp -implicitDefEqProofs only [go_sem, Nat.reduceEqDiff, Nat.reduceAdd, Nat.reduceLT, Nat.reduceMul, Nat.reduceSub, Nat.reduceLeDiff, ↓reduceIte, reduceCtorEq, ↓String.reduceEq, String.reduceNe, Int.reduceToNat, Int.reduceLT, Int.reduceLE, Int.reduceGT, Int.reduceGE, Int.reduceEq, Int.reduceNe, Int.reduceBEq, Int.reduceBNe, Int.reduceAdd, Int.reduceSub, Int.reduceMul, Int.reduceNeg,  *]))
  have HPb := Hid.mk hpb
  obtain ⟨pc, epc⟩ : ∃ pc, pc = pb := ⟨_, rfl⟩
  clear hpb
  subst epc
  refine places_spec G _ HF.out _ _ (fun pt hpt => ?_)
  simp only [hupd_none'] at hpt
  obtain ⟨⟨q1, q2⟩, q5⟩ := hpt
  have HPt := Hid.mk q5
  clear q5
  repeat' (first | exact tf0 ‹_› | exact tf1 ‹_› | exact False.elim ‹_› | (with_reducible refine Al.intro ?_; intro pb hpb; (try simp only [hupd_none'] at hpb); (repeat rcases hpb with ⟨⟨hpx, hpy⟩, hpb⟩)) | with_reducible refine need ?_ | ((with_reducible first | apply frk0 | apply frk1 | apply frk2 | apply frk3 | apply frk4 | apply frk5 | apply frk6 | apply frk7 | apply frk8 | apply frk9) <;> intro h <;> try (exfalso; omega)) | with_reducible refine quiet_and ?_ ?_ | with_reducible refine awp_drawnA mixed (by decide +kernel) ?_ | ((fail_if_success with_reducible refine stp ?_); simp -implicitDefEqProofs only [go_sem, Nat.reduceEqDiff, Nat.reduceAdd, Nat.reduceLT, Nat.reduceMul, Nat.reduceSub, Nat.reduceLeDiff, ↓reduceIte, reduceCtorEq, ↓String.reduceEq, String.reduceNe, Int.reduceToNat, Int.reduceLT, Int.reduceLE, Int.reduceGT, Int.reduceGE, Int.reduceEq, Int.reduceNe, Int.reduceBEq, Int.reduceBNe, Int.reduceAdd, Int.reduceSub, Int.reduceMul, Int.reduceNeg,  *]))
  refine awp_range (gf := 108) (fs := []) (cs := [.ptr pt 0]) (by rfl) en_108 (fun l hl => ?_)
  simp only [hupd_none'] at hl
  obtain ⟨⟨p1, p2⟩, ⟨p3, p4⟩, p7⟩ := hl
  have HPl := Hid.mk p7
  clear p7
  have HSub : Hid (∀ (x : Int) (LB : ABlk), Sub m (hupd (hupd (hupd m pc (.cells [.int .u64 x] 1)) pt (.cells [.slice b o L cap] 1)) l LB)) := .mk (fun D LB x y hx => by
    have e1 : x ≠ l := fun e => by rw [e, HPl.out] at hx; cases hx
    have e2 : x ≠ pt := fun e => by rw [e, HPt.out] at hx; cases hx
    have e3 : x ≠ pc := fun e => by rw [e, HPb.out] at hx; cases hx
    rw [hupd_ne e1, hupd_ne e2, hupd_ne e3]; exact hx)
  refine places1_spec G C HL.out (.slice b o L cap) (fun i m' => ∃ x : Int, m' = hupd (hupd (hupd m pc (.cells [.int .u64 x] 1)) pt (.cells [.slice b o L cap] 1)) l _) _ ⟨0, rfl⟩ ?_ ?_ ?_
  · rintro i m' ⟨x, rfl⟩
    refine ⟨by rw [hupd_ne (by assumption), hupd_at, if_pos rfl], HS.out.into (HSub.out _ _)⟩
  · rintro i hi m' ⟨x, rfl⟩
    refine yield_of (by rw [hupd_at, if_pos rfl]) rfl (by decide +kernel) ?_
    repeat' (first | exact tf0 ‹_› | exact tf1 ‹_› | exact False.elim ‹_› | (with_reducible refine Al.intro ?_; intro pb hpb; (try simp only [hupd_none'] at hpb); (repeat rcases hpb with ⟨⟨hpx, hpy⟩, hpb⟩)) | with_reducible refine need ?_ | ((with_reducible first | apply frk0 | apply frk1 | apply frk2 | apply frk3 | apply frk4 | apply frk5 | apply frk6 | apply frk7 | apply frk8 | apply frk9) <;> intro h <;> try (exfalso; omega)) | with_reducible refine quiet_and ?_ ?_ | with_reducible refine awp_drawnA mixed (by decide +kernel) ?_ | ((fail_if_success with_reducible refine stp ?_); simp -implicitDefEqProofs only [go_sem, Nat.reduceEqDiff, Nat.reduceAdd, Nat.reduceLT, Nat.reduceMul, Nat.reduceSub, Nat.reduceLeDiff, ↓reduceIte, reduceCtorEq, ↓String.reduceEq, String.reduceNe, Int.reduceToNat, Int.reduceLT, Int.reduceLE, Int.reduceGT, Int.reduceGE, Int.reduceEq, Int.reduceNe, Int.reduceBEq, Int.reduceBNe, Int.reduceAdd, Int.reduceSub, Int.reduceMul, Int.reduceNeg,  *]))
    refine ⟨by rw [hupd_ne (by assumption), hupd_at, if_pos rfl], rfl, ?_⟩
    refine ⟨abits .or .u64 (ashl .u64 x 1) (IntKind.u64.wrap (truthF (C.getD i 0))), ?_⟩
    funext z
    simp only [hupd_at]
    by_cases z1 : z = l
    · rw [if_pos z1, if_pos z1]
    · by_cases z2 : z = pc
      · rw [if_neg z1, if_pos z2, if_neg z1, if_neg (by rw [z2]; assumption), if_pos z2]
      · simp only [if_neg z1, if_neg z2]
  · rintro m' ⟨x, rfl⟩
    refine ⟨_, _, _, _, _, _, _, hupd m pc (.cells [.int .u64 x] 1), by rw [hupd_at, if_pos rfl], by decide, ?_, ?_, ?_⟩
    · intro y z hx
      by_cases e1 : y = pc
      · rw [e1, hupd_at, if_pos rfl] at hx
        rw [e1, hupd_ne (by assumption), hupd_ne (by assumption), hupd_at, if_pos rfl]; exact hx
      · rw [hupd_ne e1] at hx
        rw [hupd_ne (fun e => by rw [e, HPl.out] at hx; cases hx), hupd_ne (fun e => by rw [e, HPt.out] at hx; cases hx), hupd_ne e1]; exact hx
    · rw [hupd_ne (by assumption)]; exact HPl.out
    · show blockA 0 _ _ _ _
      repeat' (first | exact tf0 ‹_› | exact tf1 ‹_› | exact False.elim ‹_› | (with_reducible refine Al.intro ?_; intro pb hpb; (try simp only [hupd_none'] at hpb); (repeat rcases hpb with ⟨⟨hpx, hpy⟩, hpb⟩)) | with_reducible refine need ?_ | ((with_reducible first | apply frk0 | apply frk1 | apply frk2 | apply frk3 | apply frk4 | apply frk5 | apply frk6 | apply frk7 | apply frk8 | apply frk9) <;> intro h <;> try (exfalso; omega)) | with_reducible refine quiet_and ?_ ?_ | with_reducible refine awp_drawnA mixed (by decide +kernel) ?_ | ((fail_if_success with_reducible refine stp ?_); simp -implicitDefEqProofs only [go_sem, Nat.reduceEqDiff, Nat.reduceAdd, Nat.reduceLT, Nat.reduceMul, Nat.reduceSub, Nat.reduceLeDiff, ↓reduceIte, reduceCtorEq, ↓String.reduceEq, String.reduceNe, Int.reduceToNat, Int.reduceLT, Int.reduceLE, Int.reduceGT, Int.reduceGE, Int.reduceEq, Int.reduceNe, Int.reduceBEq, Int.reduceBNe, Int.reduceAdd, Int.reduceSub, Int.reduceMul, Int.reduceNeg,  *]))
      exact ⟨m, Sub.fresh (Sub.refl _) HPb.out, HK.out x⟩
end Go.Proofs.YtdckcophbmnjjaaGreatDoor
