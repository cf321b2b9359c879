/- The library's stable sort: the insertion. -/
import Derived.Test.YtmifapnmlhchlaaE5
import Derived.Test.YtmifapnmlhchlaaLga
set_option linter.all false
namespace Go.Proofs.Ytmifapnmlhchlaa
open Go Go.Proofs.Ytmifapnmlhchlaa.Ab
open Go.Proofs (Try.prog)
set_option maxRecDepth 100000
/-- The time of a job that waits, and its place. -/
def kT (w : Wt) : Int := w.1.2.1
def pT (w : Wt) : Int := w.2
abbrev RT : Wt → Wt → Prop := Rk kT pT
theorem cmp_lt (a b : Int) : (decide (cmpI a b < 0)) = decide (a < b) := by
  unfold cmpI; split <;> (try split) <;> simp <;> omega
/-- The time compare, as a value. -/
abbrev cameV : AVal := .func (.func 43) [] []
/-- Two neighbours in a row. -/
theorem adj {C C' P Q : List Wt} {x y : Wt} (hC : C = P ++ x :: y :: Q) (hC' : C' = P ++ y :: x :: Q) (pre post : List AVal) {i j : Nat} (hi : i = P.length) (hj : j = i + 1) :
    ((pre ++ (C.flatMap encC ++ post)).drop (pre.length + i * 5)).take 5 = [.int .i64 x.1.1, .int .i64 x.1.2.1, .int .i64 x.1.2.2.1, .int .i64 x.1.2.2.2, .int .i64 x.2] ∧
    ((pre ++ (C.flatMap encC ++ post)).drop (pre.length + j * 5)).take 5 = [.int .i64 y.1.1, .int .i64 y.1.2.1, .int .i64 y.1.2.2.1, .int .i64 y.1.2.2.2, .int .i64 y.2] ∧
    pre.length + i * 5 + 5 ≤ (pre ++ (C.flatMap encC ++ post)).length ∧ pre.length + j * 5 + 5 ≤ (pre ++ (C.flatMap encC ++ post)).length ∧
    (splice (pre ++ (C.flatMap encC ++ post)) (pre.length + i * 5) (encC y)).length = (pre ++ (C.flatMap encC ++ post)).length ∧
    (splice (pre ++ (C.flatMap encC ++ post)) (pre.length + j * 5) (encC x)).length = (pre ++ (C.flatMap encC ++ post)).length ∧
    splice (splice (pre ++ (C.flatMap encC ++ post)) (pre.length + i * 5) (encC y)) (pre.length + j * 5) (encC x) = pre ++ (C'.flatMap encC ++ post) ∧
    splice (splice (pre ++ (C.flatMap encC ++ post)) (pre.length + j * 5) (encC x)) (pre.length + i * 5) (encC y) = pre ++ (C'.flatMap encC ++ post) := by
  have hx : C.getD i default = x := by rw [hC]; exact getD_midN P x _ hi
  have hy : C.getD j default = y := by
    rw [hC, show P ++ x :: y :: Q = (P ++ [x]) ++ y :: Q by simp]; exact getD_midN _ y _ (by simp; omega)
  have hl : C.length = P.length + (Q.length + 2) := by rw [hC]; simp
  have s1 : swp C i j = C' := by rw [hC, hC']; exact swp_mid P x [] y Q hi (by simp; omega)
  have s2 : swp C j i = C' := by rw [hC, hC']; exact swp_mid' P x [] y Q hi (by simp; omega)
  refine ⟨w_at C pre post i (by omega) x hx, w_at C pre post j (by omega) y hy, w_len C pre post i (by omega), w_len C pre post j (by omega), row_slen C pre post i y (by omega), row_slen C pre post j x (by omega), ?_, ?_⟩
  · rw [row_swp C pre post i j (by omega) (by omega) x y hx hy, s1]
  · rw [row_swp C pre post j i (by omega) (by omega) y x hy hx, s2]
set_option maxHeartbeats 1000000 in
theorem insert_spec (G : Nat → AVal) (X A Y : List Wt) (hA : A.Pairwise fun x y => pT x < pT y) (hl : (X ++ (A ++ Y)).length ≤ 1000) (pre post : List AVal) (N pb L cap a b : Nat) (ha : a = X.length) (hb : b = X.length + A.length) (hL : L = (X ++ (A ++ Y)).length)
    (m : Heap) (K : AVal → Heap → Prop) (hm : m pb = some (rowB pre post N (X ++ (A ++ Y))))
    (hK : ∀ S : List Wt, S.Pairwise RT → S.Perm A → K (.tuple []) (hupd m pb (rowB pre post N (X ++ (S ++ Y))))) : CallWP Try.prog G 74 [.slice pb pre.length L cap, .int .i64 a, .int .i64 b, cameV] m K := by
  have HK := Hid.mk hK
  have HM := Hid.mk hm
  have H0 := Hid.mk (And.intro hA (And.intro ha (And.intro hb (And.intro hL hl))))
  have w1 : IntKind.i64.wrap ((a : Int) + 1) = ((a + 1 : Nat) : Int) := by simp only [List.length_append] at hl; rw [wrap_i64 (by omega) (by omega)]; omega
  clear hK hm ha hb hL hl hA
  refine callWP_body Try.func74 rfl (N := 53) rfl (rs := []) rfl en_74 (of_decide_eq_true rfl) ?_
  repeat' (first | exact tf0 ‹_› | exact tf1 ‹_› | exact False.elim ‹_› | (with_reducible refine Al.intro ?_; intro pb hpb; (try simp only [hupd_none'] at hpb); (repeat rcases hpb with ⟨⟨hpx, hpy⟩, hpb⟩)) | with_reducible refine need ?_ | ((with_reducible first | refine frk0 ?_ ?_ | refine frk1 ?_ ?_ | refine frk2 ?_ ?_ | refine frk3 ?_ ?_ | refine frk4 ?_ ?_ | refine frk5 ?_ ?_ | refine frk6 ?_ ?_ | refine frk7 ?_ ?_ | refine frk8 ?_ ?_ | refine frk9 ?_ ?_) <;> intro h <;> try (exfalso; omega)) | with_reducible refine quiet_and ?_ ?_ | with_reducible refine awp_drawnA mixed (by decide +kernel) ?_ | ((fail_if_success with_reducible refine stp ?_); simp -implicitDefEqProofs only [go_sem, Nat.reduceEqDiff, Nat.reduceAdd, Nat.reduceLT, Nat.reduceMul, Nat.reduceSub, Nat.reduceLeDiff, ↓reduceIte, reduceCtorEq, ↓String.reduceEq, String.reduceNe, Int.reduceToNat, Int.reduceLT, Int.reduceLE, Int.reduceGT, Int.reduceGE, Int.reduceEq, Int.reduceNe, Int.reduceBEq, Int.reduceBNe, Int.reduceAdd, Int.reduceSub, Int.reduceMul, Int.reduceNeg,  *]))
  refine awp_loopP 0 (fun ts m' => ∃ S : List Wt, Hid (S.Pairwise RT ∧ S.Perm A) ∧ m' = hupd m pb (rowB pre post N (X ++ (S ++ Y))))
    (fun k ts m' => ∃ (S R : List Wt) (i : Nat), Hid (k = b - i ∧ S.Pairwise RT ∧ (S ++ R).Perm A ∧ R.Pairwise (fun x y => pT x < pT y) ∧ (∀ u ∈ S, ∀ v ∈ R, pT u < pT v) ∧ (i = X.length + S.length ∨ (S = [] ∧ i = a + 1 ∧ R.length ≤ 1))) ∧ ts 0 = .slice pb pre.length L cap ∧ ts 1 = .int .i64 a ∧ ts 2 = .int .i64 b ∧ ts 3 = cameV ∧ ts 8 = .int .i64 (i : Nat) ∧ m' = hupd m pb (rowB pre post N (X ++ (S ++ (R ++ Y))))) (b - (a + 1))
    (by
      have hs : X ++ (A ++ Y) = X ++ (A.take 1 ++ (A.drop 1 ++ Y)) := by rw [← List.append_assoc (A.take 1), List.take_append_drop]
      obtain ⟨hA, ha, hb, hL, hl⟩ := H0.out
      refine ⟨A.take 1, A.drop 1, a + 1, .mk ⟨rfl, ?_, ?_, ?_, ?_, ?_⟩, ttt, ttt, ttt, ttt, ttt, ?_⟩
      · cases A with
        | nil => simp
        | cons w A => simp
      · rw [List.take_append_drop]
      · exact hA.sublist (List.drop_sublist _ _)
      · cases A with
        | nil => simp
        | cons w A => rw [List.pairwise_cons] at hA; simpa using hA.1
      · cases A with
        | nil => right; simp
        | cons w A => left; simp; omega
      · rw [← hs]
        funext x
        by_cases e : x = pb
        · rw [e, hupd_at, if_pos rfl]; exact HM.out
        · rw [hupd_ne e]) ?_ ?_
  · rintro k ts m' ⟨S, R, i, H, t0, t1, t2, t3, t8, rfl⟩
    by_cases hib : i < b
    · have lt : (i : Int) < (b : Int) := by omega
      obtain ⟨w, R', rfl⟩ : ∃ w R', R = w :: R' := by
        have h := H.out
        have q := H0.out
        have := h.2.2.1.length_eq
        cases R with
        | nil =>
          exfalso
          simp only [List.append_nil] at this
          rcases h.2.2.2.2.2 with e | ⟨rfl, e, -⟩ <;> simp only [List.length_nil] at * <;> omega
        | cons w R' => exact ⟨w, R', rfl⟩
      have hi : i = X.length + S.length := by
        have h := H.out
        have q := H0.out
        have := h.2.2.1.length_eq
        simp only [List.length_append, List.length_cons] at this
        rcases h.2.2.2.2.2 with e | ⟨rfl, e, f⟩
        · exact e
        · simp only [List.length_nil, List.length_cons] at *; omega
      have HI := Hid.mk hi
      have hb1000 : L ≤ 1000 ∧ b ≤ L := by
        have q := H0.out
        have := q.2.2.2
        simp only [List.length_append] at this
        omega
      have HB := Hid.mk hb1000
      have w2 : IntKind.i64.wrap ((i : Int) + 1) = ((i + 1 : Nat) : Int) := by rw [wrap_i64 (by omega) (by omega)]; omega
      clear hi hb1000
      repeat' (first | exact tf0 ‹_› | exact tf1 ‹_› | exact False.elim ‹_› | (with_reducible refine Al.intro ?_; intro pb hpb; (try simp only [hupd_none'] at hpb); (repeat rcases hpb with ⟨⟨hpx, hpy⟩, hpb⟩)) | with_reducible refine need ?_ | ((with_reducible first | refine frk0 ?_ ?_ | refine frk1 ?_ ?_ | refine frk2 ?_ ?_ | refine frk3 ?_ ?_ | refine frk4 ?_ ?_ | refine frk5 ?_ ?_ | refine frk6 ?_ ?_ | refine frk7 ?_ ?_ | refine frk8 ?_ ?_ | refine frk9 ?_ ?_) <;> intro h <;> try (exfalso; omega)) | with_reducible refine quiet_and ?_ ?_ | with_reducible refine awp_drawnA mixed (by decide +kernel) ?_ | ((fail_if_success with_reducible refine stp ?_); simp -implicitDefEqProofs only [go_sem, Nat.reduceEqDiff, Nat.reduceAdd, Nat.reduceLT, Nat.reduceMul, Nat.reduceSub, Nat.reduceLeDiff, ↓reduceIte, reduceCtorEq, ↓String.reduceEq, String.reduceNe, Int.reduceToNat, Int.reduceLT, Int.reduceLE, Int.reduceGT, Int.reduceGE, Int.reduceEq, Int.reduceNe, Int.reduceBEq, Int.reduceBNe, Int.reduceAdd, Int.reduceSub, Int.reduceMul, Int.reduceNeg,  *]))
      refine awp_loopP 2 (fun ts m' => ∃ S' : List Wt, Hid (S'.Pairwise RT ∧ S'.Perm (w :: S)) ∧ ts 0 = .slice pb pre.length L cap ∧ ts 1 = .int .i64 a ∧ ts 2 = .int .i64 b ∧ ts 3 = cameV ∧ ts 8 = .int .i64 (i : Nat) ∧ m' = hupd m pb (rowB pre post N (X ++ (S' ++ (R' ++ Y)))))
        (fun k ts m' => ∃ (A1 A2 : List Wt) (j : Nat), Hid (k = j ∧ A1 ++ A2 = S ∧ (∀ u ∈ A2, kT w < kT u) ∧ j = X.length + A1.length ∧ j ≤ i) ∧ ts 0 = .slice pb pre.length L cap ∧ ts 1 = .int .i64 a ∧ ts 2 = .int .i64 b ∧ ts 3 = cameV ∧ ts 8 = .int .i64 (i : Nat) ∧ ts 9 = .int .i64 (j : Nat) ∧ m' = hupd m pb (rowB pre post N (X ++ (A1 ++ (w :: (A2 ++ (R' ++ Y)))))))
        i ⟨S, [], i, .mk ⟨rfl, by simp, by simp, HI.out, Nat.le_refl _⟩, (by first | (simp only [upd, put, Nat.reduceEqDiff, ↓reduceIte, t0]; done) | (simp [upd, put, t0]; done) | rfl | (simp [upd, put, t0]; rfl)), (by first | (simp only [upd, put, Nat.reduceEqDiff, ↓reduceIte, t1]; done) | (simp [upd, put, t1]; done) | rfl | (simp [upd, put, t1]; rfl)), (by first | (simp only [upd, put, Nat.reduceEqDiff, ↓reduceIte, t2]; done) | (simp [upd, put, t2]; done) | rfl | (simp [upd, put, t2]; rfl)), (by first | (simp only [upd, put, Nat.reduceEqDiff, ↓reduceIte, t3]; done) | (simp [upd, put, t3]; done) | rfl | (simp [upd, put, t3]; rfl)), (by first | (simp only [upd, put, Nat.reduceEqDiff, ↓reduceIte, t8]; done) | (simp [upd, put, t8]; done) | rfl | (simp [upd, put, t8]; rfl)), (by first | (simp only [upd, put, Nat.reduceEqDiff, ↓reduceIte, t8]; done) | (simp [upd, put, t8]; done) | rfl | (simp [upd, put, t8]; rfl)), by simp⟩ ?_ ?_
      · rintro k ts m' ⟨A1, A2, j, H2, t0, t1, t2, t3, t8, t9, rfl⟩
        by_cases hja : a < j
        · have lt2 : (a : Int) < (j : Int) := by omega
          obtain ⟨A1', z, rfl⟩ : ∃ A1' z, A1 = A1' ++ [z] := by
            rcases List.eq_nil_or_concat A1 with rfl | ⟨P, z, rfl⟩
            · exfalso
              have h := H2.out
              have q := H0.out
              simp only [List.length_nil] at h
              omega
            · exact ⟨P, z, by simp⟩
          obtain ⟨j', hj'⟩ : ∃ j' : Nat, j = j' + 1 := ⟨j - 1, by omega⟩
          have hjj : j' = (X ++ A1').length := by have h := H2.out; simp only [List.length_append, List.length_cons, List.length_nil] at h ⊢; omega
          obtain ⟨C, hC⟩ : ∃ C, C = X ++ (A1' ++ [z] ++ (w :: (A2 ++ (R' ++ Y)))) := ⟨_, rfl⟩
          obtain ⟨C', hC'⟩ : ∃ C', C' = X ++ (A1' ++ (w :: (([z] ++ A2) ++ (R' ++ Y)))) := ⟨_, rfl⟩
          obtain ⟨g1, g2, l1, l2, -, l3, -, g3⟩ := adj (C := C) (C' := C') (P := X ++ A1') (Q := A2 ++ (R' ++ Y)) (x := z) (y := w) (by rw [hC]; simp) (by rw [hC']; simp) pre post hjj hj'
          rw [← hC]
          have HC' := Hid.mk hC'
          have HC := Hid.mk hC
          have hjL : j < L := by have := HB.out; have h := H2.out; omega
          have hjL' : j' < L := by omega
          have HJ := Hid.mk hj'
          have w3 : IntKind.i64.wrap ((j : Int) - 1) = (j' : Int) := by have := HB.out; rw [wrap_i64 (by omega) (by omega)]; omega
          clear hC hC' hjj hj'
          repeat' (first | exact tf0 ‹_› | exact tf1 ‹_› | exact False.elim ‹_› | (with_reducible refine Al.intro ?_; intro pb hpb; (try simp only [hupd_none'] at hpb); (repeat rcases hpb with ⟨⟨hpx, hpy⟩, hpb⟩)) | with_reducible refine need ?_ | ((with_reducible first | refine frk0 ?_ ?_ | refine frk1 ?_ ?_ | refine frk2 ?_ ?_ | refine frk3 ?_ ?_ | refine frk4 ?_ ?_ | refine frk5 ?_ ?_ | refine frk6 ?_ ?_ | refine frk7 ?_ ?_ | refine frk8 ?_ ?_ | refine frk9 ?_ ?_) <;> intro h <;> try (exfalso; omega)) | with_reducible refine quiet_and ?_ ?_ | with_reducible refine awp_drawnA mixed (by decide +kernel) ?_ | ((fail_if_success with_reducible refine stp ?_); simp -implicitDefEqProofs only [go_sem, Nat.reduceEqDiff, Nat.reduceAdd, Nat.reduceLT, Nat.reduceMul, Nat.reduceSub, Nat.reduceLeDiff, ↓reduceIte, reduceCtorEq, ↓String.reduceEq, String.reduceNe, Int.reduceToNat, Int.reduceLT, Int.reduceLE, Int.reduceGT, Int.reduceGE, Int.reduceEq, Int.reduceNe, Int.reduceBEq, Int.reduceBNe, Int.reduceAdd, Int.reduceSub, Int.reduceMul, Int.reduceNeg,  rowB, *]))
          refine CallWP.to (came_spec G w z _) ?_
          by_cases hk : kT w < kT z
          · have cl : cmpI w.1.2.1 z.1.2.1 < 0 := (of_decide_eq_true ((cmp_lt _ _).trans (decide_eq_true hk)))
            repeat' (first | exact tf0 ‹_› | exact tf1 ‹_› | exact False.elim ‹_› | (with_reducible refine Al.intro ?_; intro pb hpb; (try simp only [hupd_none'] at hpb); (repeat rcases hpb with ⟨⟨hpx, hpy⟩, hpb⟩)) | with_reducible refine need ?_ | ((with_reducible first | refine frk0 ?_ ?_ | refine frk1 ?_ ?_ | refine frk2 ?_ ?_ | refine frk3 ?_ ?_ | refine frk4 ?_ ?_ | refine frk5 ?_ ?_ | refine frk6 ?_ ?_ | refine frk7 ?_ ?_ | refine frk8 ?_ ?_ | refine frk9 ?_ ?_) <;> intro h <;> try (exfalso; omega)) | with_reducible refine quiet_and ?_ ?_ | with_reducible refine awp_drawnA mixed (by decide +kernel) ?_ | ((fail_if_success with_reducible refine stp ?_); simp -implicitDefEqProofs only [go_sem, Nat.reduceEqDiff, Nat.reduceAdd, Nat.reduceLT, Nat.reduceMul, Nat.reduceSub, Nat.reduceLeDiff, ↓reduceIte, reduceCtorEq, ↓String.reduceEq, String.reduceNe, Int.reduceToNat, Int.reduceLT, Int.reduceLE, Int.reduceGT, Int.reduceGE, Int.reduceEq, Int.reduceNe, Int.reduceBEq, Int.reduceBNe, Int.reduceAdd, Int.reduceSub, Int.reduceMul, Int.reduceNeg,  rowB, *]))
            exact Again.intro ⟨j', by have := HJ.out; have h := H2.out; omega, _, Sub.refl _, A1', z :: A2, j', .mk (by
              have h := H2.out
              have := HJ.out
              refine ⟨rfl, by rw [← h.2.1]; simp, ?_, ?_, ?_⟩
              · intro u hu
                rcases List.mem_cons.1 hu with rfl | hu
                · exact hk
                · exact h.2.2.1 u hu
              · have := h.2.2.2.1
                simp only [List.length_append, List.length_cons, List.length_nil] at this
                omega
              · omega), (by first | (simp only [upd, put, Nat.reduceEqDiff, ↓reduceIte, t0]; done) | (simp [upd, put, t0]; done) | rfl | (simp [upd, put, t0]; rfl)), (by first | (simp only [upd, put, Nat.reduceEqDiff, ↓reduceIte, t1]; done) | (simp [upd, put, t1]; done) | rfl | (simp [upd, put, t1]; rfl)), (by first | (simp only [upd, put, Nat.reduceEqDiff, ↓reduceIte, t2]; done) | (simp [upd, put, t2]; done) | rfl | (simp [upd, put, t2]; rfl)), (by first | (simp only [upd, put, Nat.reduceEqDiff, ↓reduceIte, t3]; done) | (simp [upd, put, t3]; done) | rfl | (simp [upd, put, t3]; rfl)), (by first | (simp only [upd, put, Nat.reduceEqDiff, ↓reduceIte, t8]; done) | (simp [upd, put, t8]; done) | rfl | (simp [upd, put, t8]; rfl)), ttt, by have := HC'.out; rw [this]; first | rfl | (simp only [rowB, hupd_hupd, List.append_assoc, List.cons_append, List.nil_append])⟩
          · have cl : ¬ cmpI w.1.2.1 z.1.2.1 < 0 := (of_decide_eq_false ((cmp_lt _ _).trans (decide_eq_false hk)))
            repeat' (first | exact tf0 ‹_› | exact tf1 ‹_› | exact False.elim ‹_› | (with_reducible refine Al.intro ?_; intro pb hpb; (try simp only [hupd_none'] at hpb); (repeat rcases hpb with ⟨⟨hpx, hpy⟩, hpb⟩)) | with_reducible refine need ?_ | ((with_reducible first | refine frk0 ?_ ?_ | refine frk1 ?_ ?_ | refine frk2 ?_ ?_ | refine frk3 ?_ ?_ | refine frk4 ?_ ?_ | refine frk5 ?_ ?_ | refine frk6 ?_ ?_ | refine frk7 ?_ ?_ | refine frk8 ?_ ?_ | refine frk9 ?_ ?_) <;> intro h <;> try (exfalso; omega)) | with_reducible refine quiet_and ?_ ?_ | with_reducible refine awp_drawnA mixed (by decide +kernel) ?_ | ((fail_if_success with_reducible refine stp ?_); simp -implicitDefEqProofs only [go_sem, Nat.reduceEqDiff, Nat.reduceAdd, Nat.reduceLT, Nat.reduceMul, Nat.reduceSub, Nat.reduceLeDiff, ↓reduceIte, reduceCtorEq, ↓String.reduceEq, String.reduceNe, Int.reduceToNat, Int.reduceLT, Int.reduceLE, Int.reduceGT, Int.reduceGE, Int.reduceEq, Int.reduceNe, Int.reduceBEq, Int.reduceBNe, Int.reduceAdd, Int.reduceSub, Int.reduceMul, Int.reduceNeg,  rowB, *]))
            exact Again.intro ⟨A1' ++ z :: (w :: A2), .mk (by
              have h := H2.out
              have g := H.out
              have e : S = A1' ++ z :: A2 := by rw [← h.2.1]; simp
              subst e
              refine ⟨?_, ?_⟩
              · have := put_in (k := kT) (t := pT) (A1 := A1' ++ [z]) (A2 := A2) (w := w) (by simpa using g.2.1) (by intro u hu; exact g.2.2.2.2.1 u (by simpa using hu) w (by simp)) (by
                  intro u hu
                  have := key_take (k := kT) (t := pT) g.2.1 (i := A1'.length) (by simp) u (by rw [show (A1' ++ z :: A2).take (A1'.length + 1) = A1' ++ [z] by simp [List.take_append, List.take_of_length_le (Nat.le_succ A1'.length)]]; exact hu)
                  rw [getD_mid] at this
                  omega) h.2.2.1
                simpa using this
              · refine List.Perm.trans ?_ (List.perm_middle (l₁ := A1' ++ [z]) (a := w) (l₂ := A2)) |>.trans ?_
                · simp
                · simp), (by first | (simp only [upd, put, Nat.reduceEqDiff, ↓reduceIte, t0]; done) | (simp [upd, put, t0]; done) | rfl | (simp [upd, put, t0]; rfl)), (by first | (simp only [upd, put, Nat.reduceEqDiff, ↓reduceIte, t1]; done) | (simp [upd, put, t1]; done) | rfl | (simp [upd, put, t1]; rfl)), (by first | (simp only [upd, put, Nat.reduceEqDiff, ↓reduceIte, t2]; done) | (simp [upd, put, t2]; done) | rfl | (simp [upd, put, t2]; rfl)), (by first | (simp only [upd, put, Nat.reduceEqDiff, ↓reduceIte, t3]; done) | (simp [upd, put, t3]; done) | rfl | (simp [upd, put, t3]; rfl)), (by first | (simp only [upd, put, Nat.reduceEqDiff, ↓reduceIte, t8]; done) | (simp [upd, put, t8]; done) | rfl | (simp [upd, put, t8]; rfl)), by rw [HC.out]; simp [rowB]⟩
        · have lt2 : ¬ (a : Int) < (j : Int) := by omega
          repeat' (first | exact tf0 ‹_› | exact tf1 ‹_› | exact False.elim ‹_› | (with_reducible refine Al.intro ?_; intro pb hpb; (try simp only [hupd_none'] at hpb); (repeat rcases hpb with ⟨⟨hpx, hpy⟩, hpb⟩)) | with_reducible refine need ?_ | ((with_reducible first | refine frk0 ?_ ?_ | refine frk1 ?_ ?_ | refine frk2 ?_ ?_ | refine frk3 ?_ ?_ | refine frk4 ?_ ?_ | refine frk5 ?_ ?_ | refine frk6 ?_ ?_ | refine frk7 ?_ ?_ | refine frk8 ?_ ?_ | refine frk9 ?_ ?_) <;> intro h <;> try (exfalso; omega)) | with_reducible refine quiet_and ?_ ?_ | with_reducible refine awp_drawnA mixed (by decide +kernel) ?_ | ((fail_if_success with_reducible refine stp ?_); simp -implicitDefEqProofs only [go_sem, Nat.reduceEqDiff, Nat.reduceAdd, Nat.reduceLT, Nat.reduceMul, Nat.reduceSub, Nat.reduceLeDiff, ↓reduceIte, reduceCtorEq, ↓String.reduceEq, String.reduceNe, Int.reduceToNat, Int.reduceLT, Int.reduceLE, Int.reduceGT, Int.reduceGE, Int.reduceEq, Int.reduceNe, Int.reduceBEq, Int.reduceBNe, Int.reduceAdd, Int.reduceSub, Int.reduceMul, Int.reduceNeg,  *]))
          exact Again.intro ⟨w :: S, .mk (by
              have h := H2.out
              have g := H.out
              have q := H0.out
              obtain rfl : A1 = [] := List.eq_nil_of_length_eq_zero (by omega)
              have e : A2 = S := by rw [← h.2.1]; simp
              subst e
              refine ⟨?_, .refl _⟩
              exact put_in (k := kT) (t := pT) (A1 := []) (A2 := A2) (w := w) g.2.1 (fun u hu => g.2.2.2.2.1 u hu w (by simp)) (by simp) h.2.2.1), (by first | (simp only [upd, put, Nat.reduceEqDiff, ↓reduceIte, t0]; done) | (simp [upd, put, t0]; done) | rfl | (simp [upd, put, t0]; rfl)), (by first | (simp only [upd, put, Nat.reduceEqDiff, ↓reduceIte, t1]; done) | (simp [upd, put, t1]; done) | rfl | (simp [upd, put, t1]; rfl)), (by first | (simp only [upd, put, Nat.reduceEqDiff, ↓reduceIte, t2]; done) | (simp [upd, put, t2]; done) | rfl | (simp [upd, put, t2]; rfl)), (by first | (simp only [upd, put, Nat.reduceEqDiff, ↓reduceIte, t3]; done) | (simp [upd, put, t3]; done) | rfl | (simp [upd, put, t3]; rfl)), (by first | (simp only [upd, put, Nat.reduceEqDiff, ↓reduceIte, t8]; done) | (simp [upd, put, t8]; done) | rfl | (simp [upd, put, t8]; rfl)), by
              have h := H2.out
              have q := H0.out
              obtain rfl : A1 = [] := List.eq_nil_of_length_eq_zero (by omega)
              have e : A2 = S := by rw [← h.2.1]; simp
              rw [e]; simp⟩
      · rintro ts m' ⟨S', H3, t0, t1, t2, t3, t8, rfl⟩
        repeat' (first | exact tf0 ‹_› | exact tf1 ‹_› | exact False.elim ‹_› | (with_reducible refine Al.intro ?_; intro pb hpb; (try simp only [hupd_none'] at hpb); (repeat rcases hpb with ⟨⟨hpx, hpy⟩, hpb⟩)) | with_reducible refine need ?_ | ((with_reducible first | refine frk0 ?_ ?_ | refine frk1 ?_ ?_ | refine frk2 ?_ ?_ | refine frk3 ?_ ?_ | refine frk4 ?_ ?_ | refine frk5 ?_ ?_ | refine frk6 ?_ ?_ | refine frk7 ?_ ?_ | refine frk8 ?_ ?_ | refine frk9 ?_ ?_) <;> intro h <;> try (exfalso; omega)) | with_reducible refine quiet_and ?_ ?_ | with_reducible refine awp_drawnA mixed (by decide +kernel) ?_ | ((fail_if_success with_reducible refine stp ?_); simp -implicitDefEqProofs only [go_sem, Nat.reduceEqDiff, Nat.reduceAdd, Nat.reduceLT, Nat.reduceMul, Nat.reduceSub, Nat.reduceLeDiff, ↓reduceIte, reduceCtorEq, ↓String.reduceEq, String.reduceNe, Int.reduceToNat, Int.reduceLT, Int.reduceLE, Int.reduceGT, Int.reduceGE, Int.reduceEq, Int.reduceNe, Int.reduceBEq, Int.reduceBNe, Int.reduceAdd, Int.reduceSub, Int.reduceMul, Int.reduceNeg,  *]))
        exact Again.intro ⟨b - (i + 1), by have h := H.out; omega, _, Sub.refl _, S', R', i + 1, .mk (by
          have h := H.out
          have g := H3.out
          have p := H.out.2.2.2.1
          rw [List.pairwise_cons] at p
          refine ⟨rfl, g.1, (g.2.append_right R').trans (List.Perm.trans ?_ h.2.2.1), p.2, ?_, .inl ?_⟩
          · exact (List.perm_middle (l₁ := S) (a := w) (l₂ := R')).symm
          · intro u hu v hv
            rw [g.2.mem_iff, List.mem_cons] at hu
            rcases hu with rfl | hu
            · exact p.1 v hv
            · exact h.2.2.2.2.1 u hu v (List.mem_cons_of_mem _ hv)
          · rw [g.2.length_eq, HI.out]; simp; omega), (by first | (simp only [upd, put, Nat.reduceEqDiff, ↓reduceIte, t0]; done) | (simp [upd, put, t0]; done) | rfl | (simp [upd, put, t0]; rfl)), (by first | (simp only [upd, put, Nat.reduceEqDiff, ↓reduceIte, t1]; done) | (simp [upd, put, t1]; done) | rfl | (simp [upd, put, t1]; rfl)), (by first | (simp only [upd, put, Nat.reduceEqDiff, ↓reduceIte, t2]; done) | (simp [upd, put, t2]; done) | rfl | (simp [upd, put, t2]; rfl)), (by first | (simp only [upd, put, Nat.reduceEqDiff, ↓reduceIte, t3]; done) | (simp [upd, put, t3]; done) | rfl | (simp [upd, put, t3]; rfl)), ttt, rfl⟩
    · have lt : ¬ (i : Int) < (b : Int) := by omega
      repeat' (first | exact tf0 ‹_› | exact tf1 ‹_› | exact False.elim ‹_› | (with_reducible refine Al.intro ?_; intro pb hpb; (try simp only [hupd_none'] at hpb); (repeat rcases hpb with ⟨⟨hpx, hpy⟩, hpb⟩)) | with_reducible refine need ?_ | ((with_reducible first | refine frk0 ?_ ?_ | refine frk1 ?_ ?_ | refine frk2 ?_ ?_ | refine frk3 ?_ ?_ | refine frk4 ?_ ?_ | refine frk5 ?_ ?_ | refine frk6 ?_ ?_ | refine frk7 ?_ ?_ | refine frk8 ?_ ?_ | refine frk9 ?_ ?_) <;> intro h <;> try (exfalso; omega)) | with_reducible refine quiet_and ?_ ?_ | with_reducible refine awp_drawnA mixed (by decide +kernel) ?_ | ((fail_if_success with_reducible refine stp ?_); simp -implicitDefEqProofs only [go_sem, Nat.reduceEqDiff, Nat.reduceAdd, Nat.reduceLT, Nat.reduceMul, Nat.reduceSub, Nat.reduceLeDiff, ↓reduceIte, reduceCtorEq, ↓String.reduceEq, String.reduceNe, Int.reduceToNat, Int.reduceLT, Int.reduceLE, Int.reduceGT, Int.reduceGE, Int.reduceEq, Int.reduceNe, Int.reduceBEq, Int.reduceBNe, Int.reduceAdd, Int.reduceSub, Int.reduceMul, Int.reduceNeg,  *]))
      exact Again.intro ⟨S ++ R, .mk (by
        have h := H.out
        have q := H0.out
        have := h.2.2.1.length_eq
        simp only [List.length_append] at this
        refine ⟨?_, h.2.2.1⟩
        rcases h.2.2.2.2.2 with e | ⟨rfl, e, f⟩
        · obtain rfl : R = [] := List.eq_nil_of_length_eq_zero (by omega)
          simpa using h.2.1
        · cases R with
          | nil => simp
          | cons r R => cases R with
            | nil => simp
            | cons r' R => simp at f), by simp⟩
  · rintro ts m' ⟨S, H, rfl⟩
    repeat' (first | exact tf0 ‹_› | exact tf1 ‹_› | exact False.elim ‹_› | (with_reducible refine Al.intro ?_; intro pb hpb; (try simp only [hupd_none'] at hpb); (repeat rcases hpb with ⟨⟨hpx, hpy⟩, hpb⟩)) | with_reducible refine need ?_ | ((with_reducible first | refine frk0 ?_ ?_ | refine frk1 ?_ ?_ | refine frk2 ?_ ?_ | refine frk3 ?_ ?_ | refine frk4 ?_ ?_ | refine frk5 ?_ ?_ | refine frk6 ?_ ?_ | refine frk7 ?_ ?_ | refine frk8 ?_ ?_ | refine frk9 ?_ ?_) <;> intro h <;> try (exfalso; omega)) | with_reducible refine quiet_and ?_ ?_ | with_reducible refine awp_drawnA mixed (by decide +kernel) ?_ | ((fail_if_success with_reducible refine stp ?_); simp -implicitDefEqProofs only [go_sem, Nat.reduceEqDiff, Nat.reduceAdd, Nat.reduceLT, Nat.reduceMul, Nat.reduceSub, Nat.reduceLeDiff, ↓reduceIte, reduceCtorEq, ↓String.reduceEq, String.reduceNe, Int.reduceToNat, Int.reduceLT, Int.reduceLE, Int.reduceGT, Int.reduceGE, Int.reduceEq, Int.reduceNe, Int.reduceBEq, Int.reduceBNe, Int.reduceAdd, Int.reduceSub, Int.reduceMul, Int.reduceNeg,  *]))
    exact ⟨_, Sub.refl _, HK.out S H.out.1 H.out.2⟩
end Go.Proofs.Ytmifapnmlhchlaa
