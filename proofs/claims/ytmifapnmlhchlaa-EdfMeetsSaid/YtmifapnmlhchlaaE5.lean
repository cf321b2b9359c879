/- The library's stable sort: blocks change places. -/
import Derived.Test.YtmifapnmlhchlaaE3
import Derived.Test.YtmifapnmlhchlaaLga
set_option linter.all false
namespace Go.Proofs.Ytmifapnmlhchlaa
open Go Go.Proofs.Ytmifapnmlhchlaa.Ab
open Go.Proofs (Try.prog)
set_option maxRecDepth 100000
theorem came_spec (G : Nat → AVal) (a b : Wt) : Ans G 43 [encWt a, encWt b] (.int .i64 (cmpI a.1.2.1 b.1.2.1)) := by
  intro m
  refine callWP_body Try.func43 rfl (N := 12) rfl (rs := [.tmp 4]) rfl en_43 (of_decide_eq_true rfl) ?_
  repeat' (first | exact tf0 ‹_› | exact tf1 ‹_› | exact False.elim ‹_› | (with_reducible refine Al.intro ?_; intro pb hpb; (try simp only [hupd_none'] at hpb); (repeat rcases hpb with ⟨⟨hpx, hpy⟩, hpb⟩)) | with_reducible refine need ?_ | ((with_reducible first | refine frk0 ?_ ?_ | refine frk1 ?_ ?_ | refine frk2 ?_ ?_ | refine frk3 ?_ ?_ | refine frk4 ?_ ?_ | refine frk5 ?_ ?_ | refine frk6 ?_ ?_ | refine frk7 ?_ ?_ | refine frk8 ?_ ?_ | refine frk9 ?_ ?_) <;> intro h <;> try (exfalso; omega)) | with_reducible refine quiet_and ?_ ?_ | with_reducible refine awp_drawnA mixed (by decide +kernel) ?_ | ((fail_if_success with_reducible refine stp ?_); simp -implicitDefEqProofs only [go_sem, Nat.reduceEqDiff, Nat.reduceAdd, Nat.reduceLT, Nat.reduceMul, Nat.reduceSub, Nat.reduceLeDiff, ↓reduceIte, reduceCtorEq, ↓String.reduceEq, String.reduceNe, Int.reduceToNat, Int.reduceLT, Int.reduceLE, Int.reduceGT, Int.reduceGE, Int.reduceEq, Int.reduceNe, Int.reduceBEq, Int.reduceBNe, Int.reduceAdd, Int.reduceSub, Int.reduceMul, Int.reduceNeg,  encWt, *]))
  refine CallWP.to (cmp64_spec G _ _ _) ?_
  repeat' (first | exact tf0 ‹_› | exact tf1 ‹_› | exact False.elim ‹_› | (with_reducible refine Al.intro ?_; intro pb hpb; (try simp only [hupd_none'] at hpb); (repeat rcases hpb with ⟨⟨hpx, hpy⟩, hpb⟩)) | with_reducible refine need ?_ | ((with_reducible first | refine frk0 ?_ ?_ | refine frk1 ?_ ?_ | refine frk2 ?_ ?_ | refine frk3 ?_ ?_ | refine frk4 ?_ ?_ | refine frk5 ?_ ?_ | refine frk6 ?_ ?_ | refine frk7 ?_ ?_ | refine frk8 ?_ ?_ | refine frk9 ?_ ?_) <;> intro h <;> try (exfalso; omega)) | with_reducible refine quiet_and ?_ ?_ | with_reducible refine awp_drawnA mixed (by decide +kernel) ?_ | ((fail_if_success with_reducible refine stp ?_); simp -implicitDefEqProofs only [go_sem, Nat.reduceEqDiff, Nat.reduceAdd, Nat.reduceLT, Nat.reduceMul, Nat.reduceSub, Nat.reduceLeDiff, ↓reduceIte, reduceCtorEq, ↓String.reduceEq, String.reduceNe, Int.reduceToNat, Int.reduceLT, Int.reduceLE, Int.reduceGT, Int.reduceGE, Int.reduceEq, Int.reduceNe, Int.reduceBEq, Int.reduceBNe, Int.reduceAdd, Int.reduceSub, Int.reduceMul, Int.reduceNeg,  encWt, *]))
  exact ⟨m, (by (repeat refine Sub.fresh ?_ (by assumption)); exact Sub.refl m), rfl, rfl⟩
/-- A row of jobs in memory. -/
def rowB (pre post : List AVal) (N : Nat) (C : List Wt) : ABlk := .cells (pre ++ (C.flatMap encC ++ post)) N
theorem row_swp (C : List Wt) (pre post : List AVal) (i j : Nat) (hi : i < C.length) (hj : j < C.length) (x y : Wt) (hx : C.getD i default = x) (hy : C.getD j default = y) :
    splice (splice (pre ++ (C.flatMap encC ++ post)) (pre.length + i * 5) (encC y)) (pre.length + j * 5) (encC x) = pre ++ ((swp C i j).flatMap encC ++ post) := by
  rw [← hx, ← hy]; exact row_swap (enc := encC) (sz := 5) encC_len C pre post i j hi hj
theorem row_slen (C : List Wt) (pre post : List AVal) (i : Nat) (y : Wt) (hi : i < C.length) : (splice (pre ++ (C.flatMap encC ++ post)) (pre.length + i * 5) (encC y)).length = (pre ++ (C.flatMap encC ++ post)).length := by
  have := w_len C pre post i hi
  unfold splice; simp only [List.length_append, List.length_take, List.length_drop, encC_len] at *; omega
set_option maxHeartbeats 1000000 in
theorem swapRange_spec (G : Nat → AVal) (f : AVal) (X P M Q Y : List Wt) (hpq : P.length = Q.length) (hl : (X ++ (P ++ (M ++ (Q ++ Y)))).length ≤ 1000) (pre post : List AVal) (N pb L cap a b n : Nat) (ha : a = X.length) (hn : n = P.length) (hb : b = X.length + P.length + M.length) (hL : L = (X ++ (P ++ (M ++ (Q ++ Y)))).length)
    (m : Heap) (K : AVal → Heap → Prop) (hm : m pb = some (rowB pre post N (X ++ (P ++ (M ++ (Q ++ Y))))))
    (hK : K (.tuple []) (hupd m pb (rowB pre post N (X ++ (Q ++ (M ++ (P ++ Y))))))) : CallWP Try.prog G 84 [.slice pb pre.length L cap, .int .i64 a, .int .i64 b, .int .i64 n, f] m K := by
  have HK := Hid.mk hK
  have HM := Hid.mk hm
  have HQ := Hid.mk (And.intro hpq (And.intro ha (And.intro hn (And.intro hb hL))))
  clear hK hm hpq ha hn hb hL
  refine callWP_body Try.func84 rfl (N := 38) rfl (rs := []) rfl en_84 (of_decide_eq_true rfl) ?_
  repeat' (first | exact tf0 ‹_› | exact tf1 ‹_› | exact False.elim ‹_› | (with_reducible refine Al.intro ?_; intro pb hpb; (try simp only [hupd_none'] at hpb); (repeat rcases hpb with ⟨⟨hpx, hpy⟩, hpb⟩)) | with_reducible refine need ?_ | ((with_reducible first | refine frk0 ?_ ?_ | refine frk1 ?_ ?_ | refine frk2 ?_ ?_ | refine frk3 ?_ ?_ | refine frk4 ?_ ?_ | refine frk5 ?_ ?_ | refine frk6 ?_ ?_ | refine frk7 ?_ ?_ | refine frk8 ?_ ?_ | refine frk9 ?_ ?_) <;> intro h <;> try (exfalso; omega)) | with_reducible refine quiet_and ?_ ?_ | with_reducible refine awp_drawnA mixed (by decide +kernel) ?_ | ((fail_if_success with_reducible refine stp ?_); simp -implicitDefEqProofs only [go_sem, Nat.reduceEqDiff, Nat.reduceAdd, Nat.reduceLT, Nat.reduceMul, Nat.reduceSub, Nat.reduceLeDiff, ↓reduceIte, reduceCtorEq, ↓String.reduceEq, String.reduceNe, Int.reduceToNat, Int.reduceLT, Int.reduceLE, Int.reduceGT, Int.reduceGE, Int.reduceEq, Int.reduceNe, Int.reduceBEq, Int.reduceBNe, Int.reduceAdd, Int.reduceSub, Int.reduceMul, Int.reduceNeg,  *]))
  refine awp_loopP 0 (fun ts m' => m' = hupd m pb (rowB pre post N (X ++ (Q ++ (M ++ (P ++ Y))))))
    (fun k ts m' => ∃ i : Nat, k = n - i ∧ i ≤ n ∧ ts 0 = .slice pb pre.length L cap ∧ ts 1 = .int .i64 a ∧ ts 2 = .int .i64 b ∧ ts 3 = .int .i64 n ∧ ts 10 = .int .i64 (i : Nat) ∧ m' = hupd m pb (rowB pre post N (X ++ ((Q.take i ++ P.drop i) ++ (M ++ ((P.take i ++ Q.drop i) ++ Y)))))) n
    ⟨0, rfl, Nat.zero_le _, ttt, ttt, ttt, ttt, ttt, by
      have : X ++ ((Q.take 0 ++ P.drop 0) ++ (M ++ ((P.take 0 ++ Q.drop 0) ++ Y))) = X ++ (P ++ (M ++ (Q ++ Y))) := by simp
      rw [this]
      funext x
      by_cases e : x = pb
      · rw [e, hupd_at, if_pos rfl]; exact HM.out
      · rw [hupd_ne e]⟩ ?_ ?_
  · rintro k ts m' ⟨i, rfl, hi, t0, t1, t2, t3, t10, rfl⟩
    by_cases hil : i < n
    · have lt : (i : Int) < (n : Int) := by omega
      obtain ⟨hpq, ha, hn, hb, hL⟩ := HQ.out
      have hstep := swap_blocks X P M Q Y hpq i (by omega)
      obtain ⟨C, hC⟩ : ∃ C, C = X ++ ((Q.take i ++ P.drop i) ++ (M ++ ((P.take i ++ Q.drop i) ++ Y))) := ⟨_, rfl⟩
      rw [← hC] at hstep ⊢
      have hlC : C.length = L := by rw [hC, hL]; simp only [List.length_append, List.length_take, List.length_drop]; omega
      have hLe : L = X.length + (P.length + (M.length + (Q.length + Y.length))) := by rw [hL]; simp only [List.length_append]
      have hLL : L ≤ 1000 := by rw [hL]; exact hl
      clear hC hL
      rw [← ha, ← hn] at hstep
      obtain ⟨j, hj⟩ : ∃ j, j = b + i := ⟨_, rfl⟩
      have hjb : a + n + M.length + i = j := by omega
      rw [hjb] at hstep
      obtain ⟨x, hx⟩ : ∃ x, C.getD (a + i) default = x := ⟨_, rfl⟩
      obtain ⟨y, hy⟩ : ∃ y, C.getD j default = y := ⟨_, rfl⟩
      have hia : a + i < C.length := by omega
      have hjl : j < C.length := by omega
      have g1 := w_at C pre post (a + i) hia x hx
      have g2 := w_at C pre post j hjl y hy
      have g3 := row_swp C pre post (a + i) j hia hjl x y hx hy
      rw [hstep] at g3
      have l1 := w_len C pre post (a + i) hia
      have l2 := w_len C pre post j hjl
      have l3 := row_slen C pre post (a + i) y hia
      have w1 : IntKind.i64.wrap ((i : Int) + 1) = ((i + 1 : Nat) : Int) := by rw [wrap_i64 (by omega) (by omega)]; rfl
      have w2 : IntKind.i64.wrap ((a : Int) + (i : Int)) = ((a + i : Nat) : Int) := by rw [wrap_i64 (by omega) (by omega)]; rfl
      have w3 : IntKind.i64.wrap ((b : Int) + (i : Int)) = (j : Int) := by rw [wrap_i64 (by omega) (by omega)]; omega
      have HC := Hid.mk hlC
      have hjL : j < L := by omega
      have haL : a + i < L := by omega
      clear hx hy hstep hj hjb hlC hLe hpq ha hn hb
      repeat' (first | exact tf0 ‹_› | exact tf1 ‹_› | exact False.elim ‹_› | (with_reducible refine Al.intro ?_; intro pb hpb; (try simp only [hupd_none'] at hpb); (repeat rcases hpb with ⟨⟨hpx, hpy⟩, hpb⟩)) | with_reducible refine need ?_ | ((with_reducible first | refine frk0 ?_ ?_ | refine frk1 ?_ ?_ | refine frk2 ?_ ?_ | refine frk3 ?_ ?_ | refine frk4 ?_ ?_ | refine frk5 ?_ ?_ | refine frk6 ?_ ?_ | refine frk7 ?_ ?_ | refine frk8 ?_ ?_ | refine frk9 ?_ ?_) <;> intro h <;> try (exfalso; omega)) | with_reducible refine quiet_and ?_ ?_ | with_reducible refine awp_drawnA mixed (by decide +kernel) ?_ | ((fail_if_success with_reducible refine stp ?_); simp -implicitDefEqProofs only [go_sem, Nat.reduceEqDiff, Nat.reduceAdd, Nat.reduceLT, Nat.reduceMul, Nat.reduceSub, Nat.reduceLeDiff, ↓reduceIte, reduceCtorEq, ↓String.reduceEq, String.reduceNe, Int.reduceToNat, Int.reduceLT, Int.reduceLE, Int.reduceGT, Int.reduceGE, Int.reduceEq, Int.reduceNe, Int.reduceBEq, Int.reduceBNe, Int.reduceAdd, Int.reduceSub, Int.reduceMul, Int.reduceNeg,  rowB, *]))
      exact Again.intro ⟨n - (i + 1), by omega, _, Sub.refl _, i + 1, rfl, by omega, (by first | (simp only [upd, put, Nat.reduceEqDiff, ↓reduceIte, t0]; done) | (simp [upd, put, t0]; done) | rfl | (simp [upd, put, t0]; rfl)), (by first | (simp only [upd, put, Nat.reduceEqDiff, ↓reduceIte, t1]; done) | (simp [upd, put, t1]; done) | rfl | (simp [upd, put, t1]; rfl)), (by first | (simp only [upd, put, Nat.reduceEqDiff, ↓reduceIte, t2]; done) | (simp [upd, put, t2]; done) | rfl | (simp [upd, put, t2]; rfl)), (by first | (simp only [upd, put, Nat.reduceEqDiff, ↓reduceIte, t3]; done) | (simp [upd, put, t3]; done) | rfl | (simp [upd, put, t3]; rfl)), ttt, rfl⟩
    · obtain ⟨hpq, ha, hn, hb, hL⟩ := HQ.out
      obtain rfl : i = n := by omega
      have nlt : ¬ ((i : Int) < (i : Int)) := by omega
      have e1 : X ++ ((Q.take i ++ P.drop i) ++ (M ++ ((P.take i ++ Q.drop i) ++ Y))) = X ++ (Q ++ (M ++ (P ++ Y))) := by
        rw [List.take_of_length_le (by omega), List.drop_eq_nil_of_le (by omega), List.take_of_length_le (by omega), List.drop_eq_nil_of_le (by omega)]; simp
      clear hpq ha hn hb hL
      repeat' (first | exact tf0 ‹_› | exact tf1 ‹_› | exact False.elim ‹_› | (with_reducible refine Al.intro ?_; intro pb hpb; (try simp only [hupd_none'] at hpb); (repeat rcases hpb with ⟨⟨hpx, hpy⟩, hpb⟩)) | with_reducible refine need ?_ | ((with_reducible first | refine frk0 ?_ ?_ | refine frk1 ?_ ?_ | refine frk2 ?_ ?_ | refine frk3 ?_ ?_ | refine frk4 ?_ ?_ | refine frk5 ?_ ?_ | refine frk6 ?_ ?_ | refine frk7 ?_ ?_ | refine frk8 ?_ ?_ | refine frk9 ?_ ?_) <;> intro h <;> try (exfalso; omega)) | with_reducible refine quiet_and ?_ ?_ | with_reducible refine awp_drawnA mixed (by decide +kernel) ?_ | ((fail_if_success with_reducible refine stp ?_); simp -implicitDefEqProofs only [go_sem, Nat.reduceEqDiff, Nat.reduceAdd, Nat.reduceLT, Nat.reduceMul, Nat.reduceSub, Nat.reduceLeDiff, ↓reduceIte, reduceCtorEq, ↓String.reduceEq, String.reduceNe, Int.reduceToNat, Int.reduceLT, Int.reduceLE, Int.reduceGT, Int.reduceGE, Int.reduceEq, Int.reduceNe, Int.reduceBEq, Int.reduceBNe, Int.reduceAdd, Int.reduceSub, Int.reduceMul, Int.reduceNeg,  *]))
      exact Again.intro (by first | rfl | rw [e1])
  · rintro ts m' rfl
    repeat' (first | exact tf0 ‹_› | exact tf1 ‹_› | exact False.elim ‹_› | (with_reducible refine Al.intro ?_; intro pb hpb; (try simp only [hupd_none'] at hpb); (repeat rcases hpb with ⟨⟨hpx, hpy⟩, hpb⟩)) | with_reducible refine need ?_ | ((with_reducible first | refine frk0 ?_ ?_ | refine frk1 ?_ ?_ | refine frk2 ?_ ?_ | refine frk3 ?_ ?_ | refine frk4 ?_ ?_ | refine frk5 ?_ ?_ | refine frk6 ?_ ?_ | refine frk7 ?_ ?_ | refine frk8 ?_ ?_ | refine frk9 ?_ ?_) <;> intro h <;> try (exfalso; omega)) | with_reducible refine quiet_and ?_ ?_ | with_reducible refine awp_drawnA mixed (by decide +kernel) ?_ | ((fail_if_success with_reducible refine stp ?_); simp -implicitDefEqProofs only [go_sem, Nat.reduceEqDiff, Nat.reduceAdd, Nat.reduceLT, Nat.reduceMul, Nat.reduceSub, Nat.reduceLeDiff, ↓reduceIte, reduceCtorEq, ↓String.reduceEq, String.reduceNe, Int.reduceToNat, Int.reduceLT, Int.reduceLE, Int.reduceGT, Int.reduceGE, Int.reduceEq, Int.reduceNe, Int.reduceBEq, Int.reduceBNe, Int.reduceAdd, Int.reduceSub, Int.reduceMul, Int.reduceNeg,  *]))
    exact ⟨_, Sub.refl _, HK.out⟩
set_option maxHeartbeats 1000000 in
theorem rotate_spec (G : Nat → AVal) (f : AVal) (X U V Y : List Wt) (hU : 1 ≤ U.length) (hV : 1 ≤ V.length) (hl : (X ++ (U ++ (V ++ Y))).length ≤ 1000) (pre post : List AVal) (N pb L cap a c b : Nat) (ha : a = X.length) (hc : c = X.length + U.length) (hb : b = X.length + U.length + V.length) (hL : L = (X ++ (U ++ (V ++ Y))).length)
    (m : Heap) (K : AVal → Heap → Prop) (hm : m pb = some (rowB pre post N (X ++ (U ++ (V ++ Y)))))
    (hK : K (.tuple []) (hupd m pb (rowB pre post N (X ++ (V ++ (U ++ Y)))))) : CallWP Try.prog G 82 [.slice pb pre.length L cap, .int .i64 a, .int .i64 c, .int .i64 b, f] m K := by
  have HK := Hid.mk hK
  have HM := Hid.mk hm
  have H0 := Hid.mk (And.intro hU (And.intro hV (And.intro ha (And.intro hc (And.intro hb (And.intro hL hl))))))
  have w1 : IntKind.i64.wrap ((c : Int) - (a : Int)) = (U.length : Int) := by simp only [List.length_append] at hl; rw [wrap_i64 (by omega) (by omega)]; omega
  have w2 : IntKind.i64.wrap ((b : Int) - (c : Int)) = (V.length : Int) := by simp only [List.length_append] at hl; rw [wrap_i64 (by omega) (by omega)]; omega
  clear hK hm ha hc hb hL hU hV hl
  refine callWP_body Try.func82 rfl (N := 58) rfl (rs := []) rfl en_82 (of_decide_eq_true rfl) ?_
  repeat' (first | exact tf0 ‹_› | exact tf1 ‹_› | exact False.elim ‹_› | (with_reducible refine Al.intro ?_; intro pb hpb; (try simp only [hupd_none'] at hpb); (repeat rcases hpb with ⟨⟨hpx, hpy⟩, hpb⟩)) | with_reducible refine need ?_ | ((with_reducible first | refine frk0 ?_ ?_ | refine frk1 ?_ ?_ | refine frk2 ?_ ?_ | refine frk3 ?_ ?_ | refine frk4 ?_ ?_ | refine frk5 ?_ ?_ | refine frk6 ?_ ?_ | refine frk7 ?_ ?_ | refine frk8 ?_ ?_ | refine frk9 ?_ ?_) <;> intro h <;> try (exfalso; omega)) | with_reducible refine quiet_and ?_ ?_ | with_reducible refine awp_drawnA mixed (by decide +kernel) ?_ | ((fail_if_success with_reducible refine stp ?_); simp -implicitDefEqProofs only [go_sem, Nat.reduceEqDiff, Nat.reduceAdd, Nat.reduceLT, Nat.reduceMul, Nat.reduceSub, Nat.reduceLeDiff, ↓reduceIte, reduceCtorEq, ↓String.reduceEq, String.reduceNe, Int.reduceToNat, Int.reduceLT, Int.reduceLE, Int.reduceGT, Int.reduceGE, Int.reduceEq, Int.reduceNe, Int.reduceBEq, Int.reduceBNe, Int.reduceAdd, Int.reduceSub, Int.reduceMul, Int.reduceNeg,  *]))
  refine awp_loopP 0 (fun ts m' => ∃ X' U' V' Y' : List Wt, ∃ i : Nat, Hid (X'.length + i = c ∧ U'.length = i ∧ V'.length = i ∧ X' ++ (V' ++ (U' ++ Y')) = X ++ (V ++ (U ++ Y))) ∧ ts 0 = .slice pb pre.length L cap ∧ ts 2 = .int .i64 c ∧ ts 4 = f ∧ ts 10 = .int .i64 (i : Nat) ∧ m' = hupd m pb (rowB pre post N (X' ++ (U' ++ (V' ++ Y')))))
    (fun k ts m' => ∃ X' U' V' Y' : List Wt, ∃ i j : Nat, Hid (k = i + j ∧ 1 ≤ i ∧ 1 ≤ j ∧ X'.length + i = c ∧ U'.length = i ∧ V'.length = j ∧ X' ++ (V' ++ (U' ++ Y')) = X ++ (V ++ (U ++ Y))) ∧ ts 0 = .slice pb pre.length L cap ∧ ts 2 = .int .i64 c ∧ ts 4 = f ∧ ts 10 = .int .i64 (i : Nat) ∧ ts 11 = .int .i64 (j : Nat) ∧ m' = hupd m pb (rowB pre post N (X' ++ (U' ++ (V' ++ Y'))))) (U.length + V.length)
    ⟨X, U, V, Y, U.length, V.length, ⟨rfl, H0.out.1, H0.out.2.1, H0.out.2.2.2.1.symm, rfl, rfl, rfl⟩, ttt, ttt, ttt, ttt, ttt, by
      funext x
      by_cases e : x = pb
      · rw [e, hupd_at, if_pos rfl]; exact HM.out
      · rw [hupd_ne e]⟩ ?_ ?_
  · rintro k ts m' ⟨X', U', V', Y', i, j, H, t0, t2, t4, t10, t11, rfl⟩
    have HB : c ≤ 1000 ∧ i + j ≤ 1000 ∧ X'.length + U'.length + V'.length + Y'.length = L ∧ L ≤ 1000 := by
      obtain ⟨h1, h2, h3, h4, h5, h6, h7⟩ := H.out
      obtain ⟨q1, q2, q3, q4, q5, q6, q7⟩ := H0.out
      have := congrArg List.length h7
      simp only [List.length_append] at this q6 q7
      omega
    have w3 : IntKind.i64.wrap ((c : Int) - (i : Int)) = (X'.length : Int) := by have := H.out; rw [wrap_i64 (by omega) (by omega)]; omega
    rcases Nat.lt_trichotomy i j with hij | hij | hij
    · have ne : ¬ ((i : Int) = (j : Int)) := by omega
      have ng : ¬ ((j : Int) < (i : Int)) := by omega
      have w4 : IntKind.i64.wrap ((c : Int) + (j : Int)) = ((c + j : Nat) : Int) := by rw [wrap_i64 (by omega) (by omega)]; omega
      have w5 : IntKind.i64.wrap (((c + j : Nat) : Int) - (i : Int)) = ((c + j - i : Nat) : Int) := by rw [wrap_i64 (by omega) (by omega)]; omega
      have w6 : IntKind.i64.wrap ((j : Int) - (i : Int)) = ((j - i : Nat) : Int) := by rw [wrap_i64 (by omega) (by omega)]; omega
      have HB' := Hid.mk HB
      clear HB
      repeat' (first | exact tf0 ‹_› | exact tf1 ‹_› | exact False.elim ‹_› | (with_reducible refine Al.intro ?_; intro pb hpb; (try simp only [hupd_none'] at hpb); (repeat rcases hpb with ⟨⟨hpx, hpy⟩, hpb⟩)) | with_reducible refine need ?_ | ((with_reducible first | refine frk0 ?_ ?_ | refine frk1 ?_ ?_ | refine frk2 ?_ ?_ | refine frk3 ?_ ?_ | refine frk4 ?_ ?_ | refine frk5 ?_ ?_ | refine frk6 ?_ ?_ | refine frk7 ?_ ?_ | refine frk8 ?_ ?_ | refine frk9 ?_ ?_) <;> intro h <;> try (exfalso; omega)) | with_reducible refine quiet_and ?_ ?_ | with_reducible refine awp_drawnA mixed (by decide +kernel) ?_ | ((fail_if_success with_reducible refine stp ?_); simp -implicitDefEqProofs only [go_sem, Nat.reduceEqDiff, Nat.reduceAdd, Nat.reduceLT, Nat.reduceMul, Nat.reduceSub, Nat.reduceLeDiff, ↓reduceIte, reduceCtorEq, ↓String.reduceEq, String.reduceNe, Int.reduceToNat, Int.reduceLT, Int.reduceLE, Int.reduceGT, Int.reduceGE, Int.reduceEq, Int.reduceNe, Int.reduceBEq, Int.reduceBNe, Int.reduceAdd, Int.reduceSub, Int.reduceMul, Int.reduceNeg,  *]))
      have hV' : V' = V'.take (j - i) ++ V'.drop (j - i) := (List.take_append_drop _ _).symm
      obtain ⟨V1, hV1⟩ : ∃ V1, V1 = V'.take (j - i) := ⟨_, rfl⟩
      obtain ⟨V2, hV2⟩ : ∃ V2, V2 = V'.drop (j - i) := ⟨_, rfl⟩
      rw [← hV1, ← hV2] at hV'
      have l1 : V1.length = j - i := by have := H.out; rw [hV1, List.length_take]; omega
      have l2 : V2.length = i := by have := H.out; rw [hV2, List.length_drop]; omega
      clear hV1 hV2
      have LL := Hid.mk (And.intro l1 l2)
      subst hV'
      obtain ⟨h1, h2, h3, h4, h5, h6, h7⟩ := H.out
      have HB := HB'.out
      simp only [List.length_append] at h6 HB
      have hsz : (X' ++ (U' ++ (V1 ++ (V2 ++ Y')))).length ≤ 1000 := by simp only [List.length_append]; omega
      refine swapRange_spec G f X' U' V1 V2 Y' (by omega) hsz pre post N pb L cap _ _ _ (by omega) (by omega) (by omega) (by simp only [List.length_append]; omega) _ _ (by rw [hupd_at, if_pos rfl]; simp only [List.append_assoc]) ?_
      clear h1 h2 h3 h4 h5 h6 l1 l2 HB hsz
      repeat' (first | exact tf0 ‹_› | exact tf1 ‹_› | exact False.elim ‹_› | (with_reducible refine Al.intro ?_; intro pb hpb; (try simp only [hupd_none'] at hpb); (repeat rcases hpb with ⟨⟨hpx, hpy⟩, hpb⟩)) | with_reducible refine need ?_ | ((with_reducible first | refine frk0 ?_ ?_ | refine frk1 ?_ ?_ | refine frk2 ?_ ?_ | refine frk3 ?_ ?_ | refine frk4 ?_ ?_ | refine frk5 ?_ ?_ | refine frk6 ?_ ?_ | refine frk7 ?_ ?_ | refine frk8 ?_ ?_ | refine frk9 ?_ ?_) <;> intro h <;> try (exfalso; omega)) | with_reducible refine quiet_and ?_ ?_ | with_reducible refine awp_drawnA mixed (by decide +kernel) ?_ | ((fail_if_success with_reducible refine stp ?_); simp -implicitDefEqProofs only [go_sem, Nat.reduceEqDiff, Nat.reduceAdd, Nat.reduceLT, Nat.reduceMul, Nat.reduceSub, Nat.reduceLeDiff, ↓reduceIte, reduceCtorEq, ↓String.reduceEq, String.reduceNe, Int.reduceToNat, Int.reduceLT, Int.reduceLE, Int.reduceGT, Int.reduceGE, Int.reduceEq, Int.reduceNe, Int.reduceBEq, Int.reduceBNe, Int.reduceAdd, Int.reduceSub, Int.reduceMul, Int.reduceNeg,  *]))
      exact Again.intro ⟨j, by have := H.out; omega, _, Sub.refl _, X', V2, V1, U' ++ Y', i, j - i, .mk (by have := H.out; have L3 := LL.out; simp only [List.length_append] at this; refine ⟨?_, ?_, ?_, ?_, ?_, ?_, ?_⟩ <;> first | omega | (rw [← h7]; simp only [List.append_assoc])), (by first | (simp only [upd, put, Nat.reduceEqDiff, ↓reduceIte, t0]; done) | (simp [upd, put, t0]; done) | rfl | (simp [upd, put, t0]; rfl)), (by first | (simp only [upd, put, Nat.reduceEqDiff, ↓reduceIte, t2]; done) | (simp [upd, put, t2]; done) | rfl | (simp [upd, put, t2]; rfl)), (by first | (simp only [upd, put, Nat.reduceEqDiff, ↓reduceIte, t4]; done) | (simp [upd, put, t4]; done) | rfl | (simp [upd, put, t4]; rfl)), (by first | (simp only [upd, put, Nat.reduceEqDiff, ↓reduceIte, t10]; done) | (simp [upd, put, t10]; done) | rfl | (simp [upd, put, t10]; rfl)), ttt, by simp only [List.append_assoc, hupd_hupd]⟩
    · subst hij
      have HB' := Hid.mk HB
      clear HB
      repeat' (first | exact tf0 ‹_› | exact tf1 ‹_› | exact False.elim ‹_› | (with_reducible refine Al.intro ?_; intro pb hpb; (try simp only [hupd_none'] at hpb); (repeat rcases hpb with ⟨⟨hpx, hpy⟩, hpb⟩)) | with_reducible refine need ?_ | ((with_reducible first | refine frk0 ?_ ?_ | refine frk1 ?_ ?_ | refine frk2 ?_ ?_ | refine frk3 ?_ ?_ | refine frk4 ?_ ?_ | refine frk5 ?_ ?_ | refine frk6 ?_ ?_ | refine frk7 ?_ ?_ | refine frk8 ?_ ?_ | refine frk9 ?_ ?_) <;> intro h <;> try (exfalso; omega)) | with_reducible refine quiet_and ?_ ?_ | with_reducible refine awp_drawnA mixed (by decide +kernel) ?_ | ((fail_if_success with_reducible refine stp ?_); simp -implicitDefEqProofs only [go_sem, Nat.reduceEqDiff, Nat.reduceAdd, Nat.reduceLT, Nat.reduceMul, Nat.reduceSub, Nat.reduceLeDiff, ↓reduceIte, reduceCtorEq, ↓String.reduceEq, String.reduceNe, Int.reduceToNat, Int.reduceLT, Int.reduceLE, Int.reduceGT, Int.reduceGE, Int.reduceEq, Int.reduceNe, Int.reduceBEq, Int.reduceBNe, Int.reduceAdd, Int.reduceSub, Int.reduceMul, Int.reduceNeg,  *]))
      exact Again.intro ⟨X', U', V', Y', i, .mk (by have := H.out; refine ⟨?_, ?_, ?_, ?_⟩ <;> first | omega | exact this.2.2.2.2.2.2), (by first | (simp only [upd, put, Nat.reduceEqDiff, ↓reduceIte, t0]; done) | (simp [upd, put, t0]; done) | rfl | (simp [upd, put, t0]; rfl)), (by first | (simp only [upd, put, Nat.reduceEqDiff, ↓reduceIte, t2]; done) | (simp [upd, put, t2]; done) | rfl | (simp [upd, put, t2]; rfl)), (by first | (simp only [upd, put, Nat.reduceEqDiff, ↓reduceIte, t4]; done) | (simp [upd, put, t4]; done) | rfl | (simp [upd, put, t4]; rfl)), (by first | (simp only [upd, put, Nat.reduceEqDiff, ↓reduceIte, t10]; done) | (simp [upd, put, t10]; done) | rfl | (simp [upd, put, t10]; rfl)), rfl⟩
    · have ne : ¬ ((i : Int) = (j : Int)) := by omega
      have ng : (j : Int) < (i : Int) := by omega
      have w6 : IntKind.i64.wrap ((i : Int) - (j : Int)) = ((i - j : Nat) : Int) := by rw [wrap_i64 (by omega) (by omega)]; omega
      have HB' := Hid.mk HB
      clear HB
      repeat' (first | exact tf0 ‹_› | exact tf1 ‹_› | exact False.elim ‹_› | (with_reducible refine Al.intro ?_; intro pb hpb; (try simp only [hupd_none'] at hpb); (repeat rcases hpb with ⟨⟨hpx, hpy⟩, hpb⟩)) | with_reducible refine need ?_ | ((with_reducible first | refine frk0 ?_ ?_ | refine frk1 ?_ ?_ | refine frk2 ?_ ?_ | refine frk3 ?_ ?_ | refine frk4 ?_ ?_ | refine frk5 ?_ ?_ | refine frk6 ?_ ?_ | refine frk7 ?_ ?_ | refine frk8 ?_ ?_ | refine frk9 ?_ ?_) <;> intro h <;> try (exfalso; omega)) | with_reducible refine quiet_and ?_ ?_ | with_reducible refine awp_drawnA mixed (by decide +kernel) ?_ | ((fail_if_success with_reducible refine stp ?_); simp -implicitDefEqProofs only [go_sem, Nat.reduceEqDiff, Nat.reduceAdd, Nat.reduceLT, Nat.reduceMul, Nat.reduceSub, Nat.reduceLeDiff, ↓reduceIte, reduceCtorEq, ↓String.reduceEq, String.reduceNe, Int.reduceToNat, Int.reduceLT, Int.reduceLE, Int.reduceGT, Int.reduceGE, Int.reduceEq, Int.reduceNe, Int.reduceBEq, Int.reduceBNe, Int.reduceAdd, Int.reduceSub, Int.reduceMul, Int.reduceNeg,  *]))
      have hU' : U' = U'.take j ++ U'.drop j := (List.take_append_drop _ _).symm
      obtain ⟨U1, hU1⟩ : ∃ U1, U1 = U'.take j := ⟨_, rfl⟩
      obtain ⟨U2, hU2⟩ : ∃ U2, U2 = U'.drop j := ⟨_, rfl⟩
      rw [← hU1, ← hU2] at hU'
      have l1 : U1.length = j := by have := H.out; rw [hU1, List.length_take]; omega
      have l2 : U2.length = i - j := by have := H.out; rw [hU2, List.length_drop]; omega
      clear hU1 hU2
      have LL := Hid.mk (And.intro l1 l2)
      subst hU'
      obtain ⟨h1, h2, h3, h4, h5, h6, h7⟩ := H.out
      have HB := HB'.out
      simp only [List.length_append] at h5 HB
      have hsz : (X' ++ (U1 ++ (U2 ++ (V' ++ Y')))).length ≤ 1000 := by simp only [List.length_append]; omega
      refine swapRange_spec G f X' U1 U2 V' Y' (by omega) hsz pre post N pb L cap _ _ _ (by omega) (by omega) (by omega) (by simp only [List.length_append]; omega) _ _ (by rw [hupd_at, if_pos rfl]; simp only [List.append_assoc]) ?_
      clear h1 h2 h3 h4 h5 h6 l1 l2 HB hsz
      repeat' (first | exact tf0 ‹_› | exact tf1 ‹_› | exact False.elim ‹_› | (with_reducible refine Al.intro ?_; intro pb hpb; (try simp only [hupd_none'] at hpb); (repeat rcases hpb with ⟨⟨hpx, hpy⟩, hpb⟩)) | with_reducible refine need ?_ | ((with_reducible first | refine frk0 ?_ ?_ | refine frk1 ?_ ?_ | refine frk2 ?_ ?_ | refine frk3 ?_ ?_ | refine frk4 ?_ ?_ | refine frk5 ?_ ?_ | refine frk6 ?_ ?_ | refine frk7 ?_ ?_ | refine frk8 ?_ ?_ | refine frk9 ?_ ?_) <;> intro h <;> try (exfalso; omega)) | with_reducible refine quiet_and ?_ ?_ | with_reducible refine awp_drawnA mixed (by decide +kernel) ?_ | ((fail_if_success with_reducible refine stp ?_); simp -implicitDefEqProofs only [go_sem, Nat.reduceEqDiff, Nat.reduceAdd, Nat.reduceLT, Nat.reduceMul, Nat.reduceSub, Nat.reduceLeDiff, ↓reduceIte, reduceCtorEq, ↓String.reduceEq, String.reduceNe, Int.reduceToNat, Int.reduceLT, Int.reduceLE, Int.reduceGT, Int.reduceGE, Int.reduceEq, Int.reduceNe, Int.reduceBEq, Int.reduceBNe, Int.reduceAdd, Int.reduceSub, Int.reduceMul, Int.reduceNeg,  *]))
      exact Again.intro ⟨i, by have := H.out; omega, _, Sub.refl _, X' ++ V', U2, U1, Y', i - j, j, .mk (by have := H.out; have L3 := LL.out; simp only [List.length_append] at this ⊢; refine ⟨?_, ?_, ?_, ?_, ?_, ?_, ?_⟩ <;> first | omega | (rw [← h7]; simp only [List.append_assoc])), (by first | (simp only [upd, put, Nat.reduceEqDiff, ↓reduceIte, t0]; done) | (simp [upd, put, t0]; done) | rfl | (simp [upd, put, t0]; rfl)), (by first | (simp only [upd, put, Nat.reduceEqDiff, ↓reduceIte, t2]; done) | (simp [upd, put, t2]; done) | rfl | (simp [upd, put, t2]; rfl)), (by first | (simp only [upd, put, Nat.reduceEqDiff, ↓reduceIte, t4]; done) | (simp [upd, put, t4]; done) | rfl | (simp [upd, put, t4]; rfl)), ttt, (by first | (simp only [upd, put, Nat.reduceEqDiff, ↓reduceIte, t11]; done) | (simp [upd, put, t11]; done) | rfl | (simp [upd, put, t11]; rfl)), by simp only [List.append_assoc, hupd_hupd]⟩
  · rintro ts m' ⟨X', U', V', Y', i, H, t0, t2, t4, t10, rfl⟩
    have HB : c ≤ 1000 ∧ i + i ≤ 1000 ∧ X'.length + U'.length + V'.length + Y'.length = L ∧ L ≤ 1000 := by
      obtain ⟨h4, h5, h6, h7⟩ := H.out
      obtain ⟨q1, q2, q3, q4, q5, q6, q7⟩ := H0.out
      have := congrArg List.length h7
      simp only [List.length_append] at this q6 q7
      omega
    have w3 : IntKind.i64.wrap ((c : Int) - (i : Int)) = (X'.length : Int) := by have := H.out; rw [wrap_i64 (by omega) (by omega)]; omega
    have HB' := Hid.mk HB
    clear HB
    repeat' (first | exact tf0 ‹_› | exact tf1 ‹_› | exact False.elim ‹_› | (with_reducible refine Al.intro ?_; intro pb hpb; (try simp only [hupd_none'] at hpb); (repeat rcases hpb with ⟨⟨hpx, hpy⟩, hpb⟩)) | with_reducible refine need ?_ | ((with_reducible first | refine frk0 ?_ ?_ | refine frk1 ?_ ?_ | refine frk2 ?_ ?_ | refine frk3 ?_ ?_ | refine frk4 ?_ ?_ | refine frk5 ?_ ?_ | refine frk6 ?_ ?_ | refine frk7 ?_ ?_ | refine frk8 ?_ ?_ | refine frk9 ?_ ?_) <;> intro h <;> try (exfalso; omega)) | with_reducible refine quiet_and ?_ ?_ | with_reducible refine awp_drawnA mixed (by decide +kernel) ?_ | ((fail_if_success with_reducible refine stp ?_); simp -implicitDefEqProofs only [go_sem, Nat.reduceEqDiff, Nat.reduceAdd, Nat.reduceLT, Nat.reduceMul, Nat.reduceSub, Nat.reduceLeDiff, ↓reduceIte, reduceCtorEq, ↓String.reduceEq, String.reduceNe, Int.reduceToNat, Int.reduceLT, Int.reduceLE, Int.reduceGT, Int.reduceGE, Int.reduceEq, Int.reduceNe, Int.reduceBEq, Int.reduceBNe, Int.reduceAdd, Int.reduceSub, Int.reduceMul, Int.reduceNeg,  *]))
    obtain ⟨h4, h5, h6, h7⟩ := H.out
    have HB := HB'.out
    have hsz : (X' ++ (U' ++ ([] ++ (V' ++ Y')))).length ≤ 1000 := by simp only [List.length_append, List.length_nil]; omega
    refine swapRange_spec G f X' U' [] V' Y' (by omega) hsz pre post N pb L cap _ _ _ (by omega) (by omega) (by simp only [List.length_nil]; omega) (by simp only [List.length_append, List.length_nil]; omega) _ _ (by rw [hupd_at, if_pos rfl]; rfl) ?_
    rw [hupd_hupd, List.nil_append, h7]
    clear h4 h5 h6 h7 HB hsz
    repeat' (first | exact tf0 ‹_› | exact tf1 ‹_› | exact False.elim ‹_› | (with_reducible refine Al.intro ?_; intro pb hpb; (try simp only [hupd_none'] at hpb); (repeat rcases hpb with ⟨⟨hpx, hpy⟩, hpb⟩)) | with_reducible refine need ?_ | ((with_reducible first | refine frk0 ?_ ?_ | refine frk1 ?_ ?_ | refine frk2 ?_ ?_ | refine frk3 ?_ ?_ | refine frk4 ?_ ?_ | refine frk5 ?_ ?_ | refine frk6 ?_ ?_ | refine frk7 ?_ ?_ | refine frk8 ?_ ?_ | refine frk9 ?_ ?_) <;> intro h <;> try (exfalso; omega)) | with_reducible refine quiet_and ?_ ?_ | with_reducible refine awp_drawnA mixed (by decide +kernel) ?_ | ((fail_if_success with_reducible refine stp ?_); simp -implicitDefEqProofs only [go_sem, Nat.reduceEqDiff, Nat.reduceAdd, Nat.reduceLT, Nat.reduceMul, Nat.reduceSub, Nat.reduceLeDiff, ↓reduceIte, reduceCtorEq, ↓String.reduceEq, String.reduceNe, Int.reduceToNat, Int.reduceLT, Int.reduceLE, Int.reduceGT, Int.reduceGE, Int.reduceEq, Int.reduceNe, Int.reduceBEq, Int.reduceBNe, Int.reduceAdd, Int.reduceSub, Int.reduceMul, Int.reduceNeg,  *]))
    exact ⟨_, Sub.refl _, HK.out⟩
end Go.Proofs.Ytmifapnmlhchlaa
