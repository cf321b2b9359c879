/- A sum of bits; a string with its sum behind: how long they are. Rows of bytes together. -/
import Derived.Test.YtdckcophbmnjjaaGreatDoorY3
import Derived.Test.YtdckcophbmnjjaaGreatDoorLg9
set_option linter.all false
namespace Go.Proofs.YtdckcophbmnjjaaGreatDoor
open Go Go.Proofs.YtdckcophbmnjjaaGreatDoor.Ab
open Go.Proofs (Tryz.prog)
set_option maxRecDepth 100000
/-- The divisor, as it is laid: sixteen bytes, whichever. -/
def DivOK (G : Nat → AVal) : Prop := ∃ dv : List AVal, G 0 = .rptr dv 0 ∧ dv.length = 16 ∧ ∀ j, j < 16 → ∃ d, dv.getD j .undef = .int .u8 d
theorem hupd_self {m : Heap} {p : Nat} {x : ABlk} (h : m p = some x) : m = hupd m p x := by
  funext z
  rw [hupd_at]
  split
  · rename_i e; rw [e, h]
  · rfl
theorem splice_pre (P X vs : List AVal) (o : Nat) : splice (P ++ X) (P.length + o) vs = P ++ splice X o vs := by
  unfold splice
  rw [List.take_length_add_append, Nat.add_assoc, List.drop_length_add_append]; simp
theorem rowp_set (D : List Int) (pre post : List AVal) (j : Nat) (z : Int) (h : j < D.length) : splice (pre ++ (D.flatMap encU ++ post)) (pre.length + j) [.int .u8 z] = pre ++ ((D.set j z).flatMap encU ++ post) := by
  rw [splice_pre]
  have := flat_set (enc := encU) (sz := 1) (fun _ => rfl) D post j z h
  rw [Nat.mul_one] at this
  rw [show [AVal.int .u8 z] = encU z from rfl, this]
theorem rowp_at (D : List Int) (pre post : List AVal) (j : Nat) (h : j < D.length) (x : Int) (hx : D.getD j 0 = x) : (pre ++ (D.flatMap encU ++ post)).getD (pre.length + j) .undef = .int .u8 x := by
  have := row_at1 (f := fun x => AVal.int .u8 x) D pre post j h
  rw [show (default : Int) = 0 from rfl, hx] at this
  exact this
theorem rowp_len (D : List Int) (pre post : List AVal) (j : Nat) (h : j < D.length) : pre.length + j < (pre ++ (D.flatMap encU ++ post)).length := by have := rowU_len D; simp only [List.length_append]; omega
set_option maxHeartbeats 4000000 in
theorem sum_spec (G : Nat → AVal) (hG : DivOK G) (C : List Int) (hl : C.length ≤ 10000) (hp : 0 < C.length) (v : AVal) (m : Heap) (hs : SlM encU 1 C v m) (K : AVal → Heap → Prop) (hK : ∀ x, K (.int .u16 x) m) : CallWP Tryz.prog G 103 [v] m K := by
  obtain ⟨dv, hG, dl, hdv⟩ := hG
  have HDV := Hid.mk hdv
  have htk : dv.take 16 = dv := List.take_of_length_le (by omega)
  clear hdv
  have HK := Hid.mk hK
  have HS := Hid.mk hs
  have HL := Hid.mk hl
  obtain ⟨b, o, cap, rfl⟩ : ∃ b o cap, v = .slice b o C.length cap := by
    rcases hs.slv with ⟨a, b⟩ | h
    · rw [b] at hp; simp at hp
    · exact h
  have HP := Hid.mk hp
  obtain ⟨L, hL⟩ : ∃ L, L = C.length := ⟨_, rfl⟩
  have H0 := Hid.mk hL
  have lL : L ≤ 10000 := by omega
  rw [← hL] at HS ⊢
  clear hK hs hL hl hp
  refine callWP_body Tryz.func103 rfl (N := 42) rfl (rs := [.tmp 2]) rfl en_103 (of_decide_eq_true rfl) ?_
  repeat' (first | exact tf0 ‹_› | exact tf1 ‹_› | exact False.elim ‹_› | (with_reducible refine Al.intro ?_; intro pb hpb; (try simp only [hupd_none'] at hpb); (repeat rcases hpb with ⟨⟨hpx, hpy⟩, hpb⟩)) | with_reducible refine need ?_ | ((with_reducible first | apply frk0 | apply frk1 | apply frk2 | apply frk3 | apply frk4 | apply frk5 | apply frk6 | apply frk7 | apply frk8 | apply frk9) <;> intro h <;> try (exfalso; omega)) | with_reducible refine quiet_and ?_ ?_ | with_reducible refine awp_drawnA mixed (by decide +kernel) ?_ | ((fail_if_success with_reducible refine stp ?_); simp -implicitDefEqProofs only [go_sem, Nat.reduceEqDiff, Nat.reduceAdd, Nat.reduceLT, Nat.reduceMul, Nat.reduceSub, Nat.reduceLeDiff, ↓reduceIte, reduceCtorEq, ↓String.reduceEq, String.reduceNe, Int.reduceToNat, Int.reduceLT, Int.reduceLE, Int.reduceGT, Int.reduceGE, Int.reduceEq, Int.reduceNe, Int.reduceBEq, Int.reduceBNe, Int.reduceAdd, Int.reduceSub, Int.reduceMul, Int.reduceNeg,  *]))
  refine awp_scope 0 rfl (fun _ _ _ => False) ?_ (fun _ _ _ h => h.elim)
  repeat' (first | exact tf0 ‹_› | exact tf1 ‹_› | exact False.elim ‹_› | (with_reducible refine Al.intro ?_; intro pb hpb; (try simp only [hupd_none'] at hpb); (repeat rcases hpb with ⟨⟨hpx, hpy⟩, hpb⟩)) | with_reducible refine need ?_ | ((with_reducible first | apply frk0 | apply frk1 | apply frk2 | apply frk3 | apply frk4 | apply frk5 | apply frk6 | apply frk7 | apply frk8 | apply frk9) <;> intro h <;> try (exfalso; omega)) | with_reducible refine quiet_and ?_ ?_ | with_reducible refine awp_drawnA mixed (by decide +kernel) ?_ | ((fail_if_success with_reducible refine stp ?_); simp -implicitDefEqProofs only [go_sem, Nat.reduceEqDiff, Nat.reduceAdd, Nat.reduceLT, Nat.reduceMul, Nat.reduceSub, Nat.reduceLeDiff, ↓reduceIte, reduceCtorEq, ↓String.reduceEq, String.reduceNe, Int.reduceToNat, Int.reduceLT, Int.reduceLE, Int.reduceGT, Int.reduceGE, Int.reduceEq, Int.reduceNe, Int.reduceBEq, Int.reduceBNe, Int.reduceAdd, Int.reduceSub, Int.reduceMul, Int.reduceNeg,  *]))
  refine clean_spec G C (by have := HL.out; omega) HP.out _ m HS.out _ (fun b1 m1 hN => ?_)
  rw [← H0.out] at hN ⊢
  obtain ⟨C1, hC1, hs1, sub1, fr1⟩ := hN
  have HN := Hid.mk (And.intro hC1 (And.intro hs1 (And.intro sub1 fr1)))
  clear hC1 hs1 sub1 fr1
  repeat' (first | exact tf0 ‹_› | exact tf1 ‹_› | exact False.elim ‹_› | (with_reducible refine Al.intro ?_; intro pb hpb; (try simp only [hupd_none'] at hpb); (repeat rcases hpb with ⟨⟨hpx, hpy⟩, hpb⟩)) | with_reducible refine need ?_ | ((with_reducible first | apply frk0 | apply frk1 | apply frk2 | apply frk3 | apply frk4 | apply frk5 | apply frk6 | apply frk7 | apply frk8 | apply frk9) <;> intro h <;> try (exfalso; omega)) | with_reducible refine quiet_and ?_ ?_ | with_reducible refine awp_drawnA mixed (by decide +kernel) ?_ | ((fail_if_success with_reducible refine stp ?_); simp -implicitDefEqProofs only [go_sem, Nat.reduceEqDiff, Nat.reduceAdd, Nat.reduceLT, Nat.reduceMul, Nat.reduceSub, Nat.reduceLeDiff, ↓reduceIte, reduceCtorEq, ↓String.reduceEq, String.reduceNe, Int.reduceToNat, Int.reduceLT, Int.reduceLE, Int.reduceGT, Int.reduceGE, Int.reduceEq, Int.reduceNe, Int.reduceBEq, Int.reduceBNe, Int.reduceAdd, Int.reduceSub, Int.reduceMul, Int.reduceNeg,  *]))
  refine appZ (enc := encU) (sz := 1) (C := C1) (z := 0) (n := 15) Tryz.underlying132 tk_5 eb_5 zl_5 (by decide) (by rw [Tryz.underlying3]; rfl) (by unfold isInt; rw [Tryz.underlying3]) zc_5 encU_len rfl HN.out.2.1 (by decide) (by have := HN.out.1; omega) (fun v2 m2 h1 h2 => ?_)
  have hl2 : (C1 ++ List.replicate 15 (0 : Int)).length = L + 15 := by rw [List.length_append, List.length_replicate, HN.out.1]
  obtain ⟨b2, pre, post, N2, cap2, hb2, hv2, hN2, hc2⟩ := h1.at' (by rw [hl2]; omega)
  rw [hl2] at hv2 hc2
  subst hv2
  obtain ⟨k1, k2⟩ := h2.sub (mb := m) HN.out.2.2.1 HN.out.2.2.2
  have HF := Hid.mk (And.intro k1 (And.intro (k2 b2 rfl) (And.intro hN2 hc2)))
  obtain ⟨D0, hD0⟩ : ∃ D0, D0 = C1 ++ List.replicate 15 (0 : Int) := ⟨_, rfl⟩
  rw [← hD0] at hb2 hl2
  have HD0 := Hid.mk (And.intro hl2 hb2)
  clear h1 h2 k1 k2 hD0 hl2 hb2 hN2 hc2
  repeat' (first | exact tf0 ‹_› | exact tf1 ‹_› | exact False.elim ‹_› | (with_reducible refine Al.intro ?_; intro pb hpb; (try simp only [hupd_none'] at hpb); (repeat rcases hpb with ⟨⟨hpx, hpy⟩, hpb⟩)) | with_reducible refine need ?_ | ((with_reducible first | apply frk0 | apply frk1 | apply frk2 | apply frk3 | apply frk4 | apply frk5 | apply frk6 | apply frk7 | apply frk8 | apply frk9) <;> intro h <;> try (exfalso; omega)) | with_reducible refine quiet_and ?_ ?_ | with_reducible refine awp_drawnA mixed (by decide +kernel) ?_ | ((fail_if_success with_reducible refine stp ?_); simp -implicitDefEqProofs only [go_sem, Nat.reduceEqDiff, Nat.reduceAdd, Nat.reduceLT, Nat.reduceMul, Nat.reduceSub, Nat.reduceLeDiff, ↓reduceIte, reduceCtorEq, ↓String.reduceEq, String.reduceNe, Int.reduceToNat, Int.reduceLT, Int.reduceLE, Int.reduceGT, Int.reduceGE, Int.reduceEq, Int.reduceNe, Int.reduceBEq, Int.reduceBNe, Int.reduceAdd, Int.reduceSub, Int.reduceMul, Int.reduceNeg,  *]))
  refine awp_loopP 0 (fun ts m' => ∃ D : List Int, Hid (D.length = L + 15) ∧ ts 0 = .slice b o L cap ∧ ts 3 = .slice b2 pre.length (L + 15) cap2 ∧ m' = hupd m2 b2 (.cells (pre ++ (D.flatMap encU ++ post)) N2))
    (fun k ts m' => ∃ (D : List Int) (i : Nat), Hid (k = L - i ∧ i ≤ L ∧ D.length = L + 15) ∧ ts 0 = .slice b o L cap ∧ ts 3 = .slice b2 pre.length (L + 15) cap2 ∧ ts 11 = .int .i64 (L : Nat) ∧ ts 12 = .int .i64 (i : Nat) ∧ m' = hupd m2 b2 (.cells (pre ++ (D.flatMap encU ++ post)) N2)) L
    ⟨D0, 0, .mk ⟨rfl, Nat.zero_le _, HD0.out.1⟩, ttt, ttt, ttt, ttt, hupd_self HD0.out.2⟩ ?_ ?_
  · rintro k ts m3 ⟨D, i, H, t0, t3, t11, t12, hm3⟩
    subst m3
    by_cases hi : i < L
    · have lt : (i : Int) < (L : Int) := by omega
      have hiD : i < D.length := by have := H.out; omega
      obtain ⟨x, hx⟩ : ∃ x, D.getD i 0 = x := ⟨_, rfl⟩
      have g1 := rowp_at D pre post i hiD x hx
      have l1 := rowp_len D pre post i hiD
      have ltl : (i : Int) < ((L + 15 : Nat) : Int) := by omega
      have w1 : IntKind.i64.wrap ((i : Int) + 1) = ((i + 1 : Nat) : Int) := by rw [wrap_i64 (by omega) (by omega)]; omega
      clear hx hiD
      by_cases hq : x = 0
      · repeat' (first | exact tf0 ‹_› | exact tf1 ‹_› | exact False.elim ‹_› | (with_reducible refine Al.intro ?_; intro pb hpb; (try simp only [hupd_none'] at hpb); (repeat rcases hpb with ⟨⟨hpx, hpy⟩, hpb⟩)) | with_reducible refine need ?_ | ((with_reducible first | apply frk0 | apply frk1 | apply frk2 | apply frk3 | apply frk4 | apply frk5 | apply frk6 | apply frk7 | apply frk8 | apply frk9) <;> intro h <;> try (exfalso; omega)) | with_reducible refine quiet_and ?_ ?_ | with_reducible refine awp_drawnA mixed (by decide +kernel) ?_ | ((fail_if_success with_reducible refine stp ?_); simp -implicitDefEqProofs only [go_sem, Nat.reduceEqDiff, Nat.reduceAdd, Nat.reduceLT, Nat.reduceMul, Nat.reduceSub, Nat.reduceLeDiff, ↓reduceIte, reduceCtorEq, ↓String.reduceEq, String.reduceNe, Int.reduceToNat, Int.reduceLT, Int.reduceLE, Int.reduceGT, Int.reduceGE, Int.reduceEq, Int.reduceNe, Int.reduceBEq, Int.reduceBNe, Int.reduceAdd, Int.reduceSub, Int.reduceMul, Int.reduceNeg,  *]))
        exact Again.intro ⟨L - (i + 1), by have := H.out; omega, _, Sub.refl _, D, i + 1, .mk ⟨rfl, by omega, H.out.2.2⟩, (by first | (simp only [upd, put, Nat.reduceEqDiff, ↓reduceIte, t0]; done) | (simp [upd, put, t0]; done) | rfl | (simp [upd, put, t0]; rfl)), (by first | (simp only [upd, put, Nat.reduceEqDiff, ↓reduceIte, t3]; done) | (simp [upd, put, t3]; done) | rfl | (simp [upd, put, t3]; rfl)), (by first | (simp only [upd, put, Nat.reduceEqDiff, ↓reduceIte, t11]; done) | (simp [upd, put, t11]; done) | rfl | (simp [upd, put, t11]; rfl)), ttt, rfl⟩
      · repeat' (first | exact tf0 ‹_› | exact tf1 ‹_› | exact False.elim ‹_› | (with_reducible refine Al.intro ?_; intro pb hpb; (try simp only [hupd_none'] at hpb); (repeat rcases hpb with ⟨⟨hpx, hpy⟩, hpb⟩)) | with_reducible refine need ?_ | ((with_reducible first | apply frk0 | apply frk1 | apply frk2 | apply frk3 | apply frk4 | apply frk5 | apply frk6 | apply frk7 | apply frk8 | apply frk9) <;> intro h <;> try (exfalso; omega)) | with_reducible refine quiet_and ?_ ?_ | with_reducible refine awp_drawnA mixed (by decide +kernel) ?_ | ((fail_if_success with_reducible refine stp ?_); simp -implicitDefEqProofs only [go_sem, Nat.reduceEqDiff, Nat.reduceAdd, Nat.reduceLT, Nat.reduceMul, Nat.reduceSub, Nat.reduceLeDiff, ↓reduceIte, reduceCtorEq, ↓String.reduceEq, String.reduceNe, Int.reduceToNat, Int.reduceLT, Int.reduceLE, Int.reduceGT, Int.reduceGE, Int.reduceEq, Int.reduceNe, Int.reduceBEq, Int.reduceBNe, Int.reduceAdd, Int.reduceSub, Int.reduceMul, Int.reduceNeg,  *]))
        refine awp_loopP 2 (fun ts m' => ∃ D : List Int, Hid (D.length = L + 15) ∧ ts 0 = .slice b o L cap ∧ ts 3 = .slice b2 pre.length (L + 15) cap2 ∧ ts 11 = .int .i64 (L : Nat) ∧ ts 12 = .int .i64 (i : Nat) ∧ m' = hupd m2 b2 (.cells (pre ++ (D.flatMap encU ++ post)) N2))
          (fun k ts m' => ∃ (D : List Int) (j : Nat), Hid (k = 16 - j ∧ j ≤ 16 ∧ D.length = L + 15) ∧ ts 0 = .slice b o L cap ∧ ts 3 = .slice b2 pre.length (L + 15) cap2 ∧ ts 4 = .int .i64 (i : Nat) ∧ ts 11 = .int .i64 (L : Nat) ∧ ts 12 = .int .i64 (i : Nat) ∧ ts 20 = .agg dv ∧ ts 21 = .int .i64 (j : Nat) ∧ m' = hupd m2 b2 (.cells (pre ++ (D.flatMap encU ++ post)) N2)) 16
          ⟨D, 0, .mk ⟨rfl, Nat.zero_le _, H.out.2.2⟩, (by first | (simp only [upd, put, Nat.reduceEqDiff, ↓reduceIte, t0]; done) | (simp [upd, put, t0]; done) | rfl | (simp [upd, put, t0]; rfl)), (by first | (simp only [upd, put, Nat.reduceEqDiff, ↓reduceIte, t3]; done) | (simp [upd, put, t3]; done) | rfl | (simp [upd, put, t3]; rfl)), ttt, (by first | (simp only [upd, put, Nat.reduceEqDiff, ↓reduceIte, t11]; done) | (simp [upd, put, t11]; done) | rfl | (simp [upd, put, t11]; rfl)), (by first | (simp only [upd, put, Nat.reduceEqDiff, ↓reduceIte, t12]; done) | (simp [upd, put, t12]; done) | rfl | (simp [upd, put, t12]; rfl)), ttt, ttt, rfl⟩ ?_ ?_
        · clear t0 t3 t11 t12
          rintro k ts m3 ⟨D, j, H2, t0, t3, t4, t11, t12, t20, t21, hm3⟩
          subst m3
          by_cases hj : j < 16
          · have lj : (j : Int) < 16 := by omega
            obtain ⟨c, hc⟩ : ∃ c, c = i + j := ⟨_, rfl⟩
            have w2 : IntKind.i64.wrap ((i : Int) + (j : Int)) = (c : Int) := by rw [wrap_i64 (by omega) (by omega)]; omega
            have w3 : IntKind.i64.wrap ((j : Int) + 1) = ((j + 1 : Nat) : Int) := by rw [wrap_i64 (by omega) (by omega)]; omega
            have hcD : c < D.length := by have := H2.out; omega
            obtain ⟨y, hy⟩ : ∃ y, D.getD c 0 = y := ⟨_, rfl⟩
            obtain ⟨d, hd⟩ := HDV.out j hj
            have g2 := rowp_at D pre post c hcD y hy
            have l2 := rowp_len D pre post c hcD
            have s1 := fun z => rowp_set D pre post c z hcD
            have lcl : (c : Int) < ((L + 15 : Nat) : Int) := by omega
            clear hy hcD hc g1 l1
            repeat' (first | exact tf0 ‹_› | exact tf1 ‹_› | exact False.elim ‹_› | (with_reducible refine Al.intro ?_; intro pb hpb; (try simp only [hupd_none'] at hpb); (repeat rcases hpb with ⟨⟨hpx, hpy⟩, hpb⟩)) | with_reducible refine need ?_ | ((with_reducible first | apply frk0 | apply frk1 | apply frk2 | apply frk3 | apply frk4 | apply frk5 | apply frk6 | apply frk7 | apply frk8 | apply frk9) <;> intro h <;> try (exfalso; omega)) | with_reducible refine quiet_and ?_ ?_ | with_reducible refine awp_drawnA mixed (by decide +kernel) ?_ | ((fail_if_success with_reducible refine stp ?_); simp -implicitDefEqProofs only [go_sem, Nat.reduceEqDiff, Nat.reduceAdd, Nat.reduceLT, Nat.reduceMul, Nat.reduceSub, Nat.reduceLeDiff, ↓reduceIte, reduceCtorEq, ↓String.reduceEq, String.reduceNe, Int.reduceToNat, Int.reduceLT, Int.reduceLE, Int.reduceGT, Int.reduceGE, Int.reduceEq, Int.reduceNe, Int.reduceBEq, Int.reduceBNe, Int.reduceAdd, Int.reduceSub, Int.reduceMul, Int.reduceNeg,  *]))
            exact Again.intro ⟨16 - (j + 1), by have := H2.out; omega, _, Sub.refl _, D.set c (abits .xor .u8 y d), j + 1, .mk ⟨rfl, by omega, by rw [List.length_set]; exact H2.out.2.2⟩, (by first | (simp only [upd, put, Nat.reduceEqDiff, ↓reduceIte, t0]; done) | (simp [upd, put, t0]; done) | rfl | (simp [upd, put, t0]; rfl)), (by first | (simp only [upd, put, Nat.reduceEqDiff, ↓reduceIte, t3]; done) | (simp [upd, put, t3]; done) | rfl | (simp [upd, put, t3]; rfl)), (by first | (simp only [upd, put, Nat.reduceEqDiff, ↓reduceIte, t4]; done) | (simp [upd, put, t4]; done) | rfl | (simp [upd, put, t4]; rfl)), (by first | (simp only [upd, put, Nat.reduceEqDiff, ↓reduceIte, t11]; done) | (simp [upd, put, t11]; done) | rfl | (simp [upd, put, t11]; rfl)), (by first | (simp only [upd, put, Nat.reduceEqDiff, ↓reduceIte, t12]; done) | (simp [upd, put, t12]; done) | rfl | (simp [upd, put, t12]; rfl)), (by first | (simp only [upd, put, Nat.reduceEqDiff, ↓reduceIte, t20]; done) | (simp [upd, put, t20]; done) | rfl | (simp [upd, put, t20]; rfl)), ttt, rfl⟩
          · have lj : ¬ (j : Int) < 16 := by omega
            repeat' (first | exact tf0 ‹_› | exact tf1 ‹_› | exact False.elim ‹_› | (with_reducible refine Al.intro ?_; intro pb hpb; (try simp only [hupd_none'] at hpb); (repeat rcases hpb with ⟨⟨hpx, hpy⟩, hpb⟩)) | with_reducible refine need ?_ | ((with_reducible first | apply frk0 | apply frk1 | apply frk2 | apply frk3 | apply frk4 | apply frk5 | apply frk6 | apply frk7 | apply frk8 | apply frk9) <;> intro h <;> try (exfalso; omega)) | with_reducible refine quiet_and ?_ ?_ | with_reducible refine awp_drawnA mixed (by decide +kernel) ?_ | ((fail_if_success with_reducible refine stp ?_); simp -implicitDefEqProofs only [go_sem, Nat.reduceEqDiff, Nat.reduceAdd, Nat.reduceLT, Nat.reduceMul, Nat.reduceSub, Nat.reduceLeDiff, ↓reduceIte, reduceCtorEq, ↓String.reduceEq, String.reduceNe, Int.reduceToNat, Int.reduceLT, Int.reduceLE, Int.reduceGT, Int.reduceGE, Int.reduceEq, Int.reduceNe, Int.reduceBEq, Int.reduceBNe, Int.reduceAdd, Int.reduceSub, Int.reduceMul, Int.reduceNeg,  *]))
            exact Again.intro ⟨D, .mk H2.out.2.2, (by first | (simp only [upd, put, Nat.reduceEqDiff, ↓reduceIte, t0]; done) | (simp [upd, put, t0]; done) | rfl | (simp [upd, put, t0]; rfl)), (by first | (simp only [upd, put, Nat.reduceEqDiff, ↓reduceIte, t3]; done) | (simp [upd, put, t3]; done) | rfl | (simp [upd, put, t3]; rfl)), (by first | (simp only [upd, put, Nat.reduceEqDiff, ↓reduceIte, t11]; done) | (simp [upd, put, t11]; done) | rfl | (simp [upd, put, t11]; rfl)), (by first | (simp only [upd, put, Nat.reduceEqDiff, ↓reduceIte, t12]; done) | (simp [upd, put, t12]; done) | rfl | (simp [upd, put, t12]; rfl)), rfl⟩
        · clear t0 t3 t11 t12 g1 l1
          rintro ts m3 ⟨D, H2, t0, t3, t11, t12, hm3⟩
          subst m3
          repeat' (first | exact tf0 ‹_› | exact tf1 ‹_› | exact False.elim ‹_› | (with_reducible refine Al.intro ?_; intro pb hpb; (try simp only [hupd_none'] at hpb); (repeat rcases hpb with ⟨⟨hpx, hpy⟩, hpb⟩)) | with_reducible refine need ?_ | ((with_reducible first | apply frk0 | apply frk1 | apply frk2 | apply frk3 | apply frk4 | apply frk5 | apply frk6 | apply frk7 | apply frk8 | apply frk9) <;> intro h <;> try (exfalso; omega)) | with_reducible refine quiet_and ?_ ?_ | with_reducible refine awp_drawnA mixed (by decide +kernel) ?_ | ((fail_if_success with_reducible refine stp ?_); simp -implicitDefEqProofs only [go_sem, Nat.reduceEqDiff, Nat.reduceAdd, Nat.reduceLT, Nat.reduceMul, Nat.reduceSub, Nat.reduceLeDiff, ↓reduceIte, reduceCtorEq, ↓String.reduceEq, String.reduceNe, Int.reduceToNat, Int.reduceLT, Int.reduceLE, Int.reduceGT, Int.reduceGE, Int.reduceEq, Int.reduceNe, Int.reduceBEq, Int.reduceBNe, Int.reduceAdd, Int.reduceSub, Int.reduceMul, Int.reduceNeg,  *]))
          exact Again.intro ⟨L - (i + 1), by have := H.out; omega, _, Sub.refl _, D, i + 1, .mk ⟨rfl, by omega, H2.out⟩, (by first | (simp only [upd, put, Nat.reduceEqDiff, ↓reduceIte, t0]; done) | (simp [upd, put, t0]; done) | rfl | (simp [upd, put, t0]; rfl)), (by first | (simp only [upd, put, Nat.reduceEqDiff, ↓reduceIte, t3]; done) | (simp [upd, put, t3]; done) | rfl | (simp [upd, put, t3]; rfl)), (by first | (simp only [upd, put, Nat.reduceEqDiff, ↓reduceIte, t11]; done) | (simp [upd, put, t11]; done) | rfl | (simp [upd, put, t11]; rfl)), ttt, rfl⟩
    · have lt : ¬ (i : Int) < (L : Int) := by omega
      repeat' (first | exact tf0 ‹_› | exact tf1 ‹_› | exact False.elim ‹_› | (with_reducible refine Al.intro ?_; intro pb hpb; (try simp only [hupd_none'] at hpb); (repeat rcases hpb with ⟨⟨hpx, hpy⟩, hpb⟩)) | with_reducible refine need ?_ | ((with_reducible first | apply frk0 | apply frk1 | apply frk2 | apply frk3 | apply frk4 | apply frk5 | apply frk6 | apply frk7 | apply frk8 | apply frk9) <;> intro h <;> try (exfalso; omega)) | with_reducible refine quiet_and ?_ ?_ | with_reducible refine awp_drawnA mixed (by decide +kernel) ?_ | ((fail_if_success with_reducible refine stp ?_); simp -implicitDefEqProofs only [go_sem, Nat.reduceEqDiff, Nat.reduceAdd, Nat.reduceLT, Nat.reduceMul, Nat.reduceSub, Nat.reduceLeDiff, ↓reduceIte, reduceCtorEq, ↓String.reduceEq, String.reduceNe, Int.reduceToNat, Int.reduceLT, Int.reduceLE, Int.reduceGT, Int.reduceGE, Int.reduceEq, Int.reduceNe, Int.reduceBEq, Int.reduceBNe, Int.reduceAdd, Int.reduceSub, Int.reduceMul, Int.reduceNeg,  *]))
      exact Again.intro ⟨D, .mk H.out.2.2, (by first | (simp only [upd, put, Nat.reduceEqDiff, ↓reduceIte, t0]; done) | (simp [upd, put, t0]; done) | rfl | (simp [upd, put, t0]; rfl)), (by first | (simp only [upd, put, Nat.reduceEqDiff, ↓reduceIte, t3]; done) | (simp [upd, put, t3]; done) | rfl | (simp [upd, put, t3]; rfl)), rfl⟩
  · rintro ts m3 ⟨D, H, t0, t3, hm3⟩
    subst m3
    have hc2 := HF.out.2.2.2
    have c1 : (L : Int) ≤ ((L + 15 : Nat) : Int) := by omega
    have c2 : ((L + 15 : Nat) : Int) ≤ (cap2 : Int) := by omega
    have c3 : (0 : Int) ≤ (L : Int) := by omega
    repeat' (first | exact tf0 ‹_› | exact tf1 ‹_› | exact False.elim ‹_› | (with_reducible refine Al.intro ?_; intro pb hpb; (try simp only [hupd_none'] at hpb); (repeat rcases hpb with ⟨⟨hpx, hpy⟩, hpb⟩)) | with_reducible refine need ?_ | ((with_reducible first | apply frk0 | apply frk1 | apply frk2 | apply frk3 | apply frk4 | apply frk5 | apply frk6 | apply frk7 | apply frk8 | apply frk9) <;> intro h <;> try (exfalso; omega)) | with_reducible refine quiet_and ?_ ?_ | with_reducible refine awp_drawnA mixed (by decide +kernel) ?_ | ((fail_if_success with_reducible refine stp ?_); simp -implicitDefEqProofs only [go_sem, Nat.reduceEqDiff, Nat.reduceAdd, Nat.reduceLT, Nat.reduceMul, Nat.reduceSub, Nat.reduceLeDiff, ↓reduceIte, reduceCtorEq, ↓String.reduceEq, String.reduceNe, Int.reduceToNat, Int.reduceLT, Int.reduceLE, Int.reduceGT, Int.reduceGE, Int.reduceEq, Int.reduceNe, Int.reduceBEq, Int.reduceBNe, Int.reduceAdd, Int.reduceSub, Int.reduceMul, Int.reduceNeg,  *]))
    have hDd : (D.drop L).length = 15 := by rw [List.length_drop, H.out]; omega
    have e1 : (if (cap2 : Int) = (L : Int) then pre.length else pre.length + L) = pre.length + L := if_neg (by omega)
    rw [e1, show L + 15 - L = 15 by omega]
    refine number_spec G (D.drop L) (by rw [hDd]; omega) (by rw [hDd]; omega) _ _ (.inr ⟨b2, _, by rw [hupd_at, if_pos rfl], pre ++ (D.take L).flatMap encU, post, N2, cap2 - L, by rw [hDd, List.length_append, rowU_len, List.length_take, Nat.min_eq_left (by have := H.out; omega)], ?_, ?_, by rw [hDd]; omega⟩) _ (fun x => ?_)
    · have e2 : D.flatMap encU = (D.take L).flatMap encU ++ (D.drop L).flatMap encU := by rw [← List.flatMap_append, List.take_append_drop]
      rw [e2]; simp
    · rw [List.length_append, rowU_len, List.length_take, Nat.min_eq_left (by have := H.out; omega)]
      have := HF.out.2.2.1
      omega
    · repeat' (first | exact tf0 ‹_› | exact tf1 ‹_› | exact False.elim ‹_› | (with_reducible refine Al.intro ?_; intro pb hpb; (try simp only [hupd_none'] at hpb); (repeat rcases hpb with ⟨⟨hpx, hpy⟩, hpb⟩)) | with_reducible refine need ?_ | ((with_reducible first | apply frk0 | apply frk1 | apply frk2 | apply frk3 | apply frk4 | apply frk5 | apply frk6 | apply frk7 | apply frk8 | apply frk9) <;> intro h <;> try (exfalso; omega)) | with_reducible refine quiet_and ?_ ?_ | with_reducible refine awp_drawnA mixed (by decide +kernel) ?_ | ((fail_if_success with_reducible refine stp ?_); simp -implicitDefEqProofs only [go_sem, Nat.reduceEqDiff, Nat.reduceAdd, Nat.reduceLT, Nat.reduceMul, Nat.reduceSub, Nat.reduceLeDiff, ↓reduceIte, reduceCtorEq, ↓String.reduceEq, String.reduceNe, Int.reduceToNat, Int.reduceLT, Int.reduceLE, Int.reduceGT, Int.reduceGE, Int.reduceEq, Int.reduceNe, Int.reduceBEq, Int.reduceBNe, Int.reduceAdd, Int.reduceSub, Int.reduceMul, Int.reduceNeg,  *]))
      exact ⟨m, fun y z hy => (by rw [hupd_ne (fun e => by rw [e, HF.out.2.1] at hy; cases hy)]; exact HF.out.1 y z hy), HK.out _⟩
theorem sbits_spec (G : Nat → AVal) (x : Int) (m : Heap) (K : AVal → Heap → Prop) (hK : ∀ b m', NewU m 15 (.slice b 0 15 15) m' → K (.slice b 0 15 15) m') : CallWP Tryz.prog G 102 [.int .u16 x] m K := by
  have HK := Hid.mk hK
  clear hK
  refine callWP_body Tryz.func102 rfl (N := 6) rfl (rs := [.tmp 2]) rfl en_102 (of_decide_eq_true rfl) ?_
  repeat' (first | exact tf0 ‹_› | exact tf1 ‹_› | exact False.elim ‹_› | (with_reducible refine Al.intro ?_; intro pb hpb; (try simp only [hupd_none'] at hpb); (repeat rcases hpb with ⟨⟨hpx, hpy⟩, hpb⟩)) | with_reducible refine need ?_ | ((with_reducible first | apply frk0 | apply frk1 | apply frk2 | apply frk3 | apply frk4 | apply frk5 | apply frk6 | apply frk7 | apply frk8 | apply frk9) <;> intro h <;> try (exfalso; omega)) | with_reducible refine quiet_and ?_ ?_ | with_reducible refine awp_drawnA mixed (by decide +kernel) ?_ | ((fail_if_success with_reducible refine stp ?_); simp -implicitDefEqProofs only [go_sem, Nat.reduceEqDiff, Nat.reduceAdd, Nat.reduceLT, Nat.reduceMul, Nat.reduceSub, Nat.reduceLeDiff, ↓reduceIte, reduceCtorEq, ↓String.reduceEq, String.reduceNe, Int.reduceToNat, Int.reduceLT, Int.reduceLE, Int.reduceGT, Int.reduceGE, Int.reduceEq, Int.reduceNe, Int.reduceBEq, Int.reduceBNe, Int.reduceAdd, Int.reduceSub, Int.reduceMul, Int.reduceNeg,  *]))
  refine of_spec G _ 15 (by decide) (by decide) _ _ (fun b m1 hN => ?_)
  have HN := Hid.mk hN
  clear hN
  repeat' (first | exact tf0 ‹_› | exact tf1 ‹_› | exact False.elim ‹_› | (with_reducible refine Al.intro ?_; intro pb hpb; (try simp only [hupd_none'] at hpb); (repeat rcases hpb with ⟨⟨hpx, hpy⟩, hpb⟩)) | with_reducible refine need ?_ | ((with_reducible first | apply frk0 | apply frk1 | apply frk2 | apply frk3 | apply frk4 | apply frk5 | apply frk6 | apply frk7 | apply frk8 | apply frk9) <;> intro h <;> try (exfalso; omega)) | with_reducible refine quiet_and ?_ ?_ | with_reducible refine awp_drawnA mixed (by decide +kernel) ?_ | ((fail_if_success with_reducible refine stp ?_); simp -implicitDefEqProofs only [go_sem, Nat.reduceEqDiff, Nat.reduceAdd, Nat.reduceLT, Nat.reduceMul, Nat.reduceSub, Nat.reduceLeDiff, ↓reduceIte, reduceCtorEq, ↓String.reduceEq, String.reduceNe, Int.reduceToNat, Int.reduceLT, Int.reduceLE, Int.reduceGT, Int.reduceGE, Int.reduceEq, Int.reduceNe, Int.reduceBEq, Int.reduceBNe, Int.reduceAdd, Int.reduceSub, Int.reduceMul, Int.reduceNeg,  *]))
  exact ⟨_, Sub.refl _, HK.out b m1 HN.out⟩
set_option maxHeartbeats 1000000 in
theorem seal_spec (G : Nat → AVal) (hG : DivOK G) (C : List Int) (hl : C.length ≤ 10000) (hp : 0 < C.length) (v : AVal) (m : Heap) (hs : SlM encU 1 C v m) (K : AVal → Heap → Prop) (hK : ∀ v' m', NewU m (C.length + 15) v' m' → K v' m') : CallWP Tryz.prog G 94 [v] m K := by
  obtain ⟨b, o, cap, rfl⟩ : ∃ b o cap, v = .slice b o C.length cap := by
    rcases hs.slv with ⟨a, b⟩ | h
    · rw [b] at hp; simp at hp
    · exact h
  obtain ⟨L, hL⟩ : ∃ L, L = C.length := ⟨_, rfl⟩
  have H := Hid.mk (And.intro hK (And.intro hs (And.intro hl (And.intro hp hL))))
  rw [← hL]
  clear hK hs hL hl hp
  refine callWP_body Tryz.func94 rfl (N := 9) rfl (rs := [.tmp 2]) rfl en_94 (of_decide_eq_true rfl) ?_
  repeat' (first | exact tf0 ‹_› | exact tf1 ‹_› | exact False.elim ‹_› | (with_reducible refine Al.intro ?_; intro pb hpb; (try simp only [hupd_none'] at hpb); (repeat rcases hpb with ⟨⟨hpx, hpy⟩, hpb⟩)) | with_reducible refine need ?_ | ((with_reducible first | apply frk0 | apply frk1 | apply frk2 | apply frk3 | apply frk4 | apply frk5 | apply frk6 | apply frk7 | apply frk8 | apply frk9) <;> intro h <;> try (exfalso; omega)) | with_reducible refine quiet_and ?_ ?_ | with_reducible refine awp_drawnA mixed (by decide +kernel) ?_ | ((fail_if_success with_reducible refine stp ?_); simp -implicitDefEqProofs only [go_sem, Nat.reduceEqDiff, Nat.reduceAdd, Nat.reduceLT, Nat.reduceMul, Nat.reduceSub, Nat.reduceLeDiff, ↓reduceIte, reduceCtorEq, ↓String.reduceEq, String.reduceNe, Int.reduceToNat, Int.reduceLT, Int.reduceLE, Int.reduceGT, Int.reduceGE, Int.reduceEq, Int.reduceNe, Int.reduceBEq, Int.reduceBNe, Int.reduceAdd, Int.reduceSub, Int.reduceMul, Int.reduceNeg,  *]))
  refine clean_spec G C (by have := H.out.2.2.1; omega) H.out.2.2.2.1 _ m (by rw [H.out.2.2.2.2]; exact H.out.2.1) _ (fun b1 m1 hN => ?_)
  rw [← H.out.2.2.2.2] at hN ⊢
  have HN := Hid.mk hN
  clear hN
  repeat' (first | exact tf0 ‹_› | exact tf1 ‹_› | exact False.elim ‹_› | (with_reducible refine Al.intro ?_; intro pb hpb; (try simp only [hupd_none'] at hpb); (repeat rcases hpb with ⟨⟨hpx, hpy⟩, hpb⟩)) | with_reducible refine need ?_ | ((with_reducible first | apply frk0 | apply frk1 | apply frk2 | apply frk3 | apply frk4 | apply frk5 | apply frk6 | apply frk7 | apply frk8 | apply frk9) <;> intro h <;> try (exfalso; omega)) | with_reducible refine quiet_and ?_ ?_ | with_reducible refine awp_drawnA mixed (by decide +kernel) ?_ | ((fail_if_success with_reducible refine stp ?_); simp -implicitDefEqProofs only [go_sem, Nat.reduceEqDiff, Nat.reduceAdd, Nat.reduceLT, Nat.reduceMul, Nat.reduceSub, Nat.reduceLeDiff, ↓reduceIte, reduceCtorEq, ↓String.reduceEq, String.reduceNe, Int.reduceToNat, Int.reduceLT, Int.reduceLE, Int.reduceGT, Int.reduceGE, Int.reduceEq, Int.reduceNe, Int.reduceBEq, Int.reduceBNe, Int.reduceAdd, Int.reduceSub, Int.reduceMul, Int.reduceNeg,  *]))
  refine sum_spec G hG C H.out.2.2.1 H.out.2.2.2.1 _ m1 (by obtain ⟨-, -, -, hsub, -⟩ := HN.out; rw [H.out.2.2.2.2]; exact H.out.2.1.into hsub) _ (fun x => ?_)
  repeat' (first | exact tf0 ‹_› | exact tf1 ‹_› | exact False.elim ‹_› | (with_reducible refine Al.intro ?_; intro pb hpb; (try simp only [hupd_none'] at hpb); (repeat rcases hpb with ⟨⟨hpx, hpy⟩, hpb⟩)) | with_reducible refine need ?_ | ((with_reducible first | apply frk0 | apply frk1 | apply frk2 | apply frk3 | apply frk4 | apply frk5 | apply frk6 | apply frk7 | apply frk8 | apply frk9) <;> intro h <;> try (exfalso; omega)) | with_reducible refine quiet_and ?_ ?_ | with_reducible refine awp_drawnA mixed (by decide +kernel) ?_ | ((fail_if_success with_reducible refine stp ?_); simp -implicitDefEqProofs only [go_sem, Nat.reduceEqDiff, Nat.reduceAdd, Nat.reduceLT, Nat.reduceMul, Nat.reduceSub, Nat.reduceLeDiff, ↓reduceIte, reduceCtorEq, ↓String.reduceEq, String.reduceNe, Int.reduceToNat, Int.reduceLT, Int.reduceLE, Int.reduceGT, Int.reduceGE, Int.reduceEq, Int.reduceNe, Int.reduceBEq, Int.reduceBNe, Int.reduceAdd, Int.reduceSub, Int.reduceMul, Int.reduceNeg,  *]))
  refine sbits_spec G x m1 _ (fun b2 m2 hN2 => ?_)
  have HN2 := Hid.mk hN2
  clear hN2
  repeat' (first | exact tf0 ‹_› | exact tf1 ‹_› | exact False.elim ‹_› | (with_reducible refine Al.intro ?_; intro pb hpb; (try simp only [hupd_none'] at hpb); (repeat rcases hpb with ⟨⟨hpx, hpy⟩, hpb⟩)) | with_reducible refine need ?_ | ((with_reducible first | apply frk0 | apply frk1 | apply frk2 | apply frk3 | apply frk4 | apply frk5 | apply frk6 | apply frk7 | apply frk8 | apply frk9) <;> intro h <;> try (exfalso; omega)) | with_reducible refine quiet_and ?_ ?_ | with_reducible refine awp_drawnA mixed (by decide +kernel) ?_ | ((fail_if_success with_reducible refine stp ?_); simp -implicitDefEqProofs only [go_sem, Nat.reduceEqDiff, Nat.reduceAdd, Nat.reduceLT, Nat.reduceMul, Nat.reduceSub, Nat.reduceLeDiff, ↓reduceIte, reduceCtorEq, ↓String.reduceEq, String.reduceNe, Int.reduceToNat, Int.reduceLT, Int.reduceLE, Int.reduceGT, Int.reduceGE, Int.reduceEq, Int.reduceNe, Int.reduceBEq, Int.reduceBNe, Int.reduceAdd, Int.reduceSub, Int.reduceMul, Int.reduceNeg,  *]))
  obtain ⟨C1, hC1, hs1, sub1, fr1⟩ := HN.out
  obtain ⟨C2, hC2, hs2, sub2, fr2⟩ := HN2.out
  refine appV (enc := encU) (sz := 1) (C := C1) (E := C2) Tryz.underlying132 tk_5 eb_5 zl_5 (by decide) (by rw [Tryz.underlying132]; rfl) (by unfold isInt; rw [Tryz.underlying132]) encU_len (by rw [List.all_eq_true]; intro x hx; obtain ⟨y, -, hy⟩ := List.mem_flatMap.1 hx; rw [List.mem_singleton.1 hy]; rfl) hs2 (hs1.into sub2) (by have := H.out.2.2.1; have := H.out.2.2.2.2; omega) (fun v3 m3 h1 h2 => ?_)
  obtain ⟨k1, k2⟩ := h2.sub (mb := m) (subTrans sub1 sub2) fr1
  have HF := Hid.mk (show NewU m (L + 15) v3 m3 from ⟨C1 ++ C2, by rw [List.length_append, hC1, hC2], h1, k1, k2⟩)
  clear hC1 hs1 sub1 fr1 hC2 hs2 sub2 fr2 h1 h2 k1 k2
  repeat' (first | exact tf0 ‹_› | exact tf1 ‹_› | exact False.elim ‹_› | (with_reducible refine Al.intro ?_; intro pb hpb; (try simp only [hupd_none'] at hpb); (repeat rcases hpb with ⟨⟨hpx, hpy⟩, hpb⟩)) | with_reducible refine need ?_ | ((with_reducible first | apply frk0 | apply frk1 | apply frk2 | apply frk3 | apply frk4 | apply frk5 | apply frk6 | apply frk7 | apply frk8 | apply frk9) <;> intro h <;> try (exfalso; omega)) | with_reducible refine quiet_and ?_ ?_ | with_reducible refine awp_drawnA mixed (by decide +kernel) ?_ | ((fail_if_success with_reducible refine stp ?_); simp -implicitDefEqProofs only [go_sem, Nat.reduceEqDiff, Nat.reduceAdd, Nat.reduceLT, Nat.reduceMul, Nat.reduceSub, Nat.reduceLeDiff, ↓reduceIte, reduceCtorEq, ↓String.reduceEq, String.reduceNe, Int.reduceToNat, Int.reduceLT, Int.reduceLE, Int.reduceGT, Int.reduceGE, Int.reduceEq, Int.reduceNe, Int.reduceBEq, Int.reduceBNe, Int.reduceAdd, Int.reduceSub, Int.reduceMul, Int.reduceNeg,  *]))
  exact ⟨_, Sub.refl _, H.out.1 v3 m3 (by rw [← H.out.2.2.2.2]; exact HF.out)⟩
end Go.Proofs.YtdckcophbmnjjaaGreatDoor
namespace Go.Proofs.YtdckcophbmnjjaaGreatDoor
open Go Go.Proofs.YtdckcophbmnjjaaGreatDoor.Ab
open Go.Proofs (Tryz.prog)
set_option maxRecDepth 100000
set_option maxHeartbeats 1000000 in
theorem grow_spec (G : Nat → AVal) (n : Nat) (h0 : 0 < n) (h1 : n ≤ 100000) (m : Heap) (K : AVal → Heap → Prop) (hK : ∀ v' m', NewU m 0 v' m' → K v' m') : CallWP Tryz.prog G 99 [.nils, .int .i64 (n : Nat)] m K := by
  have HK := Hid.mk hK
  clear hK
  have n1 : ¬ (n : Int) < 0 := by omega
  have n2 : (0 : Int) < (n : Int) := by omega
  have w1 : IntKind.i64.wrap (n : Int) = n := wrap_i64 (by omega) (by omega)
  have z1 : IntKind.i64.wrap 0 = 0 := by decide
  refine callWP_body Tryz.func99 rfl (N := 27) rfl (rs := [.tmp 4]) rfl en_99 (of_decide_eq_true rfl) ?_
  repeat' (first | exact tf0 ‹_› | exact tf1 ‹_› | exact False.elim ‹_› | (with_reducible refine Al.intro ?_; intro pb hpb; (try simp only [hupd_none'] at hpb); (repeat rcases hpb with ⟨⟨hpx, hpy⟩, hpb⟩)) | with_reducible refine need ?_ | ((with_reducible first | apply frk0 | apply frk1 | apply frk2 | apply frk3 | apply frk4 | apply frk5 | apply frk6 | apply frk7 | apply frk8 | apply frk9) <;> intro h <;> try (exfalso; omega)) | with_reducible refine quiet_and ?_ ?_ | with_reducible refine awp_drawnA mixed (by decide +kernel) ?_ | ((fail_if_success with_reducible refine stp ?_); simp -implicitDefEqProofs only [go_sem, Nat.reduceEqDiff, Nat.reduceAdd, Nat.reduceLT, Nat.reduceMul, Nat.reduceSub, Nat.reduceLeDiff, ↓reduceIte, reduceCtorEq, ↓String.reduceEq, String.reduceNe, Int.reduceToNat, Int.reduceLT, Int.reduceLE, Int.reduceGT, Int.reduceGE, Int.reduceEq, Int.reduceNe, Int.reduceBEq, Int.reduceBNe, Int.reduceAdd, Int.reduceSub, Int.reduceMul, Int.reduceNeg,  Int.sub_zero, acap, *]))
  refine appZ (enc := encU) (sz := 1) (C := []) (z := 0) (n := n) Tryz.underlying132 tk_5 eb_5 zl_5 (by decide) (by rw [Tryz.underlying3]; rfl) (by unfold isInt; rw [Tryz.underlying3]) zc_5 encU_len rfl (.inl ⟨rfl, rfl⟩) h0 (by simp; omega) (fun v2 m2 h1 h2 => ?_)
  obtain ⟨k1, k2⟩ := h2.sub (mb := m) (Sub.refl _) (by simp [bOf])
  obtain ⟨b2, pre, post, N2, cap2, hb2, rfl, hN2, hc2⟩ := h1.at' (by simp; omega)
  have HF := Hid.mk (And.intro k1 (And.intro (k2 b2 rfl) (And.intro hb2 (And.intro hN2 hc2))))
  clear h1 h2 k1 k2 hb2 hN2 hc2
  have hl : ([] ++ List.replicate n (0 : Int)).length = n := by simp
  rw [hl]
  repeat' (first | exact tf0 ‹_› | exact tf1 ‹_› | exact False.elim ‹_› | (with_reducible refine Al.intro ?_; intro pb hpb; (try simp only [hupd_none'] at hpb); (repeat rcases hpb with ⟨⟨hpx, hpy⟩, hpb⟩)) | with_reducible refine need ?_ | ((with_reducible first | apply frk0 | apply frk1 | apply frk2 | apply frk3 | apply frk4 | apply frk5 | apply frk6 | apply frk7 | apply frk8 | apply frk9) <;> intro h <;> try (exfalso; omega)) | with_reducible refine quiet_and ?_ ?_ | with_reducible refine awp_drawnA mixed (by decide +kernel) ?_ | ((fail_if_success with_reducible refine stp ?_); simp -implicitDefEqProofs only [go_sem, Nat.reduceEqDiff, Nat.reduceAdd, Nat.reduceLT, Nat.reduceMul, Nat.reduceSub, Nat.reduceLeDiff, ↓reduceIte, reduceCtorEq, ↓String.reduceEq, String.reduceNe, Int.reduceToNat, Int.reduceLT, Int.reduceLE, Int.reduceGT, Int.reduceGE, Int.reduceEq, Int.reduceNe, Int.reduceBEq, Int.reduceBNe, Int.reduceAdd, Int.reduceSub, Int.reduceMul, Int.reduceNeg,  Int.sub_zero, acap, *]))
  refine ⟨m2, Sub.refl _, ?_⟩
  rw [show (if (cap2 : Int) = 0 then pre.length else pre.length) = pre.length by split <;> rfl]
  obtain ⟨f1, f2, f3, f4, f5⟩ := HF.out
  exact HK.out _ _ ⟨[], rfl, .inr ⟨b2, _, f3, pre, _, N2, cap2, rfl, rfl, f4, Nat.zero_le _⟩, f1, fun c hc => by simp only [bOf, Option.some.injEq] at hc; rw [← hc]; exact f2⟩
/-- The rows of a row. -/
def RowsU (Cs : List (List Int)) (vs : List AVal) (m : Heap) : Prop := vs.length = Cs.length ∧ ∀ i, i < Cs.length → SlM encU 1 (Cs.getD i []) (vs.getD i .undef) m
theorem RowsU.into {Cs : List (List Int)} {vs : List AVal} {m m' : Heap} (h : RowsU Cs vs m) (s : Sub m m') : RowsU Cs vs m' := ⟨h.1, fun i hi => (h.2 i hi).into s⟩
theorem flat_take (Cs : List (List Int)) (i : Nat) (h : i < Cs.length) : (Cs.take (i + 1)).flatten = (Cs.take i).flatten ++ Cs.getD i [] := by
  rw [List.take_add_one, List.flatten_append]; simp [List.getD_eq_getElem?_getD, h]
theorem flat_le (Cs : List (List Int)) (i : Nat) : (Cs.take i).flatten.length ≤ Cs.flatten.length := by
  have : Cs.flatten = (Cs.take i).flatten ++ (Cs.drop i).flatten := by rw [← List.flatten_append, List.take_append_drop]
  rw [this, List.length_append]; omega
set_option maxHeartbeats 4000000 in
theorem concat_spec (G : Nat → AVal) (Cs : List (List Int)) (vs : List AVal) (bp cap N : Nat) (m : Heap) (hb : m bp = some (.cells vs N)) (hr : RowsU Cs vs m) (hn : Cs.length ≤ 100) (hl : Cs.flatten.length ≤ 10000) (hp : 0 < Cs.flatten.length) (hne : ∀ i, i < Cs.length → Cs.getD i [] ≠ []) (K : AVal → Heap → Prop)
    (hK : ∀ v m', NewU m Cs.flatten.length v m' → K v m') : CallWP Tryz.prog G 90 [.slice bp 0 Cs.length cap] m K := by
  obtain ⟨L, hL⟩ : ∃ L, L = Cs.length := ⟨_, rfl⟩
  have H0 := Hid.mk (And.intro hK (And.intro hr (And.intro hl (And.intro hp hL))))
  have HNE := Hid.mk hne
  clear hne
  have hvl : vs.length = L := by rw [hL]; exact hr.1
  rw [← hL] at hn ⊢
  clear hK hr hl hp hL
  refine callWP_body Tryz.func90 rfl (N := 36) rfl (rs := [.tmp 2]) rfl en_90 (of_decide_eq_true rfl) ?_
  repeat' (first | exact tf0 ‹_› | exact tf1 ‹_› | exact False.elim ‹_› | (with_reducible refine Al.intro ?_; intro pb hpb; (try simp only [hupd_none'] at hpb); (repeat rcases hpb with ⟨⟨hpx, hpy⟩, hpb⟩)) | with_reducible refine need ?_ | ((with_reducible first | apply frk0 | apply frk1 | apply frk2 | apply frk3 | apply frk4 | apply frk5 | apply frk6 | apply frk7 | apply frk8 | apply frk9) <;> intro h <;> try (exfalso; omega)) | with_reducible refine quiet_and ?_ ?_ | with_reducible refine awp_drawnA mixed (by decide +kernel) ?_ | ((fail_if_success with_reducible refine stp ?_); simp -implicitDefEqProofs only [go_sem, Nat.reduceEqDiff, Nat.reduceAdd, Nat.reduceLT, Nat.reduceMul, Nat.reduceSub, Nat.reduceLeDiff, ↓reduceIte, reduceCtorEq, ↓String.reduceEq, String.reduceNe, Int.reduceToNat, Int.reduceLT, Int.reduceLE, Int.reduceGT, Int.reduceGE, Int.reduceEq, Int.reduceNe, Int.reduceBEq, Int.reduceBNe, Int.reduceAdd, Int.reduceSub, Int.reduceMul, Int.reduceNeg,  *]))
  refine awp_loopP 0 (fun ts m' => ts 0 = .slice bp 0 L cap ∧ ts 3 = .int .i64 (Cs.flatten.length : Nat) ∧ m' = m) (fun k ts m' => ∃ (i a : Nat), Hid (k = L - i ∧ i ≤ L ∧ a = (Cs.take i).flatten.length) ∧ ts 0 = .slice bp 0 L cap ∧ ts 3 = .int .i64 (a : Nat) ∧ ts 9 = .slice bp 0 L cap ∧ ts 10 = .int .i64 (L : Nat) ∧ ts 11 = .int .i64 (i : Nat) ∧ m' = m) L
    ⟨0, 0, .mk ⟨rfl, Nat.zero_le _, rfl⟩, ttt, ttt, ttt, ttt, ttt, rfl⟩ ?_ ?_
  · rintro k ts m2 ⟨i, a, H, t0, t3, t9, t10, t11, hm2⟩
    subst m2
    by_cases hi : i < L
    · have lt : (i : Int) < (L : Int) := by omega
      have hiC : i < Cs.length := by have := H0.out.2.2.2.2; omega
      have hs := H0.out.2.1.2 i hiC
      have hft := flat_take Cs i hiC
      have hfl := flat_le Cs (i + 1)
      have hcl := congrArg List.length hft
      rw [List.length_append, ← H.out.2.2] at hcl
      have hmx := H0.out.2.2.1
      obtain ⟨q, hq⟩ : ∃ q, q = (Cs.getD i []).length := ⟨_, rfl⟩
      rw [← hq] at hcl
      obtain ⟨x, hx⟩ : ∃ x, vs.getD i .undef = x := ⟨_, rfl⟩
      rw [hx] at hs
      have w1 : IntKind.i64.wrap ((i : Int) + 1) = ((i + 1 : Nat) : Int) := by rw [wrap_i64 (by omega) (by omega)]; omega
      have w2 : IntKind.i64.wrap ((a : Int) + (q : Int)) = ((a + q : Nat) : Int) := by rw [wrap_i64 (by omega) (by omega)]; omega
      have n1 : ¬ ((a + q : Nat) : Int) < 0 := by omega
      have liv : i < vs.length := by omega
      obtain ⟨b, o, c, hform⟩ : ∃ b o c, x = .slice b o q c := by
        rcases hs.slv with ⟨h1, h2⟩ | h
        · exact absurd h2 (HNE.out i hiC)
        · rw [hq]; exact h
      have HC := Hid.mk hcl
      clear hs hft hfl hcl hmx hq hiC
      subst hform
      repeat' (first | exact tf0 ‹_› | exact tf1 ‹_› | exact False.elim ‹_› | (with_reducible refine Al.intro ?_; intro pb hpb; (try simp only [hupd_none'] at hpb); (repeat rcases hpb with ⟨⟨hpx, hpy⟩, hpb⟩)) | with_reducible refine need ?_ | ((with_reducible first | apply frk0 | apply frk1 | apply frk2 | apply frk3 | apply frk4 | apply frk5 | apply frk6 | apply frk7 | apply frk8 | apply frk9) <;> intro h <;> try (exfalso; omega)) | with_reducible refine quiet_and ?_ ?_ | with_reducible refine awp_drawnA mixed (by decide +kernel) ?_ | ((fail_if_success with_reducible refine stp ?_); simp -implicitDefEqProofs only [go_sem, Nat.reduceEqDiff, Nat.reduceAdd, Nat.reduceLT, Nat.reduceMul, Nat.reduceSub, Nat.reduceLeDiff, ↓reduceIte, reduceCtorEq, ↓String.reduceEq, String.reduceNe, Int.reduceToNat, Int.reduceLT, Int.reduceLE, Int.reduceGT, Int.reduceGE, Int.reduceEq, Int.reduceNe, Int.reduceBEq, Int.reduceBNe, Int.reduceAdd, Int.reduceSub, Int.reduceMul, Int.reduceNeg,  *]))
      exact Again.intro ⟨L - (i + 1), by have := H.out; omega, _, Sub.refl _, i + 1, a + q, .mk ⟨rfl, by omega, by rw [HC.out]⟩, (by first | (simp only [upd, put, Nat.reduceEqDiff, ↓reduceIte, t0]; done) | (simp [upd, put, t0]; done) | rfl | (simp [upd, put, t0]; rfl)), ttt, (by first | (simp only [upd, put, Nat.reduceEqDiff, ↓reduceIte, t9]; done) | (simp [upd, put, t9]; done) | rfl | (simp [upd, put, t9]; rfl)), (by first | (simp only [upd, put, Nat.reduceEqDiff, ↓reduceIte, t10]; done) | (simp [upd, put, t10]; done) | rfl | (simp [upd, put, t10]; rfl)), ttt, rfl⟩
    · have lt : ¬ (i : Int) < (L : Int) := by omega
      have he : Hid (a = Cs.flatten.length) := .mk (by have h := H.out.2.2; rwa [List.take_of_length_le (by have := H0.out.2.2.2.2; omega)] at h)
      repeat' (first | exact tf0 ‹_› | exact tf1 ‹_› | exact False.elim ‹_› | (with_reducible refine Al.intro ?_; intro pb hpb; (try simp only [hupd_none'] at hpb); (repeat rcases hpb with ⟨⟨hpx, hpy⟩, hpb⟩)) | with_reducible refine need ?_ | ((with_reducible first | apply frk0 | apply frk1 | apply frk2 | apply frk3 | apply frk4 | apply frk5 | apply frk6 | apply frk7 | apply frk8 | apply frk9) <;> intro h <;> try (exfalso; omega)) | with_reducible refine quiet_and ?_ ?_ | with_reducible refine awp_drawnA mixed (by decide +kernel) ?_ | ((fail_if_success with_reducible refine stp ?_); simp -implicitDefEqProofs only [go_sem, Nat.reduceEqDiff, Nat.reduceAdd, Nat.reduceLT, Nat.reduceMul, Nat.reduceSub, Nat.reduceLeDiff, ↓reduceIte, reduceCtorEq, ↓String.reduceEq, String.reduceNe, Int.reduceToNat, Int.reduceLT, Int.reduceLE, Int.reduceGT, Int.reduceGE, Int.reduceEq, Int.reduceNe, Int.reduceBEq, Int.reduceBNe, Int.reduceAdd, Int.reduceSub, Int.reduceMul, Int.reduceNeg,  *]))
      exact Again.intro ⟨(by first | (simp only [upd, put, Nat.reduceEqDiff, ↓reduceIte, t0]; done) | (simp [upd, put, t0]; done) | rfl | (simp [upd, put, t0]; rfl)), by rw [← he.out]; exact ((by first | (simp only [upd, put, Nat.reduceEqDiff, ↓reduceIte, t3]; done) | (simp [upd, put, t3]; done) | rfl | (simp [upd, put, t3]; rfl))), rfl⟩
  · rintro ts m2 ⟨t0, t3, hm2⟩
    obtain rfl : m2 = m := hm2
    repeat' (first | exact tf0 ‹_› | exact tf1 ‹_› | exact False.elim ‹_› | (with_reducible refine Al.intro ?_; intro pb hpb; (try simp only [hupd_none'] at hpb); (repeat rcases hpb with ⟨⟨hpx, hpy⟩, hpb⟩)) | with_reducible refine need ?_ | ((with_reducible first | apply frk0 | apply frk1 | apply frk2 | apply frk3 | apply frk4 | apply frk5 | apply frk6 | apply frk7 | apply frk8 | apply frk9) <;> intro h <;> try (exfalso; omega)) | with_reducible refine quiet_and ?_ ?_ | with_reducible refine awp_drawnA mixed (by decide +kernel) ?_ | ((fail_if_success with_reducible refine stp ?_); simp -implicitDefEqProofs only [go_sem, Nat.reduceEqDiff, Nat.reduceAdd, Nat.reduceLT, Nat.reduceMul, Nat.reduceSub, Nat.reduceLeDiff, ↓reduceIte, reduceCtorEq, ↓String.reduceEq, String.reduceNe, Int.reduceToNat, Int.reduceLT, Int.reduceLE, Int.reduceGT, Int.reduceGE, Int.reduceEq, Int.reduceNe, Int.reduceBEq, Int.reduceBNe, Int.reduceAdd, Int.reduceSub, Int.reduceMul, Int.reduceNeg,  *]))
    refine grow_spec G Cs.flatten.length H0.out.2.2.2.1 (by have := H0.out.2.2.1; omega) m2 _ (fun v6 m3 hN => ?_)
    obtain ⟨C0, hC0, hs0, sub0, fr0⟩ := hN
    obtain rfl : C0 = [] := List.eq_nil_of_length_eq_zero hC0
    have HG := Hid.mk (And.intro hs0 (And.intro sub0 fr0))
    clear hC0 hs0 sub0 fr0
    repeat' (first | exact tf0 ‹_› | exact tf1 ‹_› | exact False.elim ‹_› | (with_reducible refine Al.intro ?_; intro pb hpb; (try simp only [hupd_none'] at hpb); (repeat rcases hpb with ⟨⟨hpx, hpy⟩, hpb⟩)) | with_reducible refine need ?_ | ((with_reducible first | apply frk0 | apply frk1 | apply frk2 | apply frk3 | apply frk4 | apply frk5 | apply frk6 | apply frk7 | apply frk8 | apply frk9) <;> intro h <;> try (exfalso; omega)) | with_reducible refine quiet_and ?_ ?_ | with_reducible refine awp_drawnA mixed (by decide +kernel) ?_ | ((fail_if_success with_reducible refine stp ?_); simp -implicitDefEqProofs only [go_sem, Nat.reduceEqDiff, Nat.reduceAdd, Nat.reduceLT, Nat.reduceMul, Nat.reduceSub, Nat.reduceLeDiff, ↓reduceIte, reduceCtorEq, ↓String.reduceEq, String.reduceNe, Int.reduceToNat, Int.reduceLT, Int.reduceLE, Int.reduceGT, Int.reduceGE, Int.reduceEq, Int.reduceNe, Int.reduceBEq, Int.reduceBNe, Int.reduceAdd, Int.reduceSub, Int.reduceMul, Int.reduceNeg,  *]))
    refine awp_loopP 2 (fun ts m' => ∃ v : AVal, Hid (SlM encU 1 Cs.flatten v m' ∧ Sub m2 m' ∧ ∀ x, bOf v = some x → m2 x = none) ∧ ts 6 = v)
      (fun k ts m' => ∃ (v : AVal) (i : Nat), Hid (k = L - i ∧ i ≤ L ∧ SlM encU 1 (Cs.take i).flatten v m' ∧ Sub m2 m' ∧ ∀ x, bOf v = some x → m2 x = none) ∧ ts 6 = v ∧ ts 25 = .slice bp 0 L cap ∧ ts 26 = .int .i64 (L : Nat) ∧ ts 27 = .int .i64 (i : Nat)) L
      ⟨v6, 0, .mk ⟨rfl, Nat.zero_le _, HG.out.1, HG.out.2.1, HG.out.2.2⟩, ttt, (by first | (simp only [upd, put, Nat.reduceEqDiff, ↓reduceIte, t0]; done) | (simp [upd, put, t0]; done) | rfl | (simp [upd, put, t0]; rfl)), ttt, ttt⟩ ?_ ?_
    · clear t0 t3
      rintro k ts m4 ⟨v, i, H, t6, t25, t26, t27⟩
      by_cases hi : i < L
      · have lt : (i : Int) < (L : Int) := by omega
        have hiC : i < Cs.length := by have := H0.out.2.2.2.2; omega
        have hs := (H0.out.2.1.2 i hiC).into H.out.2.2.2.1
        have hft := flat_take Cs i hiC
        have hfl := flat_le Cs (i + 1)
        have hmx := H0.out.2.2.1
        obtain ⟨x, hx⟩ : ∃ x, vs.getD i .undef = x := ⟨_, rfl⟩
        rw [hx] at hs
        have w1 : IntKind.i64.wrap ((i : Int) + 1) = ((i + 1 : Nat) : Int) := by rw [wrap_i64 (by omega) (by omega)]; omega
        have liv : i < vs.length := by omega
        have hb4 := H.out.2.2.2.1 _ _ hb
        have hcl := congrArg List.length hft
        rw [List.length_append] at hcl
        obtain ⟨b, o, c, hform⟩ : ∃ b o c, x = .slice b o (Cs.getD i []).length c := by
          rcases hs.slv with ⟨h1, h2⟩ | h
          · exact absurd h2 (HNE.out i hiC)
          · exact h
        have HS := Hid.mk (And.intro hs (And.intro hft (And.intro hfl (And.intro hmx hcl))))
        clear hs hft hfl hmx hcl hiC
        subst hform
        repeat' (first | exact tf0 ‹_› | exact tf1 ‹_› | exact False.elim ‹_› | (with_reducible refine Al.intro ?_; intro pb hpb; (try simp only [hupd_none'] at hpb); (repeat rcases hpb with ⟨⟨hpx, hpy⟩, hpb⟩)) | with_reducible refine need ?_ | ((with_reducible first | apply frk0 | apply frk1 | apply frk2 | apply frk3 | apply frk4 | apply frk5 | apply frk6 | apply frk7 | apply frk8 | apply frk9) <;> intro h <;> try (exfalso; omega)) | with_reducible refine quiet_and ?_ ?_ | with_reducible refine awp_drawnA mixed (by decide +kernel) ?_ | ((fail_if_success with_reducible refine stp ?_); simp -implicitDefEqProofs only [go_sem, Nat.reduceEqDiff, Nat.reduceAdd, Nat.reduceLT, Nat.reduceMul, Nat.reduceSub, Nat.reduceLeDiff, ↓reduceIte, reduceCtorEq, ↓String.reduceEq, String.reduceNe, Int.reduceToNat, Int.reduceLT, Int.reduceLE, Int.reduceGT, Int.reduceGE, Int.reduceEq, Int.reduceNe, Int.reduceBEq, Int.reduceBNe, Int.reduceAdd, Int.reduceSub, Int.reduceMul, Int.reduceNeg,  *]))
        refine appV (enc := encU) (sz := 1) (C := (Cs.take i).flatten) (E := Cs.getD i []) Tryz.underlying132 tk_5 eb_5 zl_5 (by decide) (by rw [Tryz.underlying132]; rfl) (by unfold isInt; rw [Tryz.underlying132]) encU_len (by rw [List.all_eq_true]; intro x hx; obtain ⟨y, -, hy⟩ := List.mem_flatMap.1 hx; rw [List.mem_singleton.1 hy]; rfl) HS.out.1 H.out.2.2.1 (by have := HS.out; omega) (fun v5 m5 h1 h2 => ?_)
        obtain ⟨k1, k2⟩ := h2.sub (mb := m2) H.out.2.2.2.1 H.out.2.2.2.2
        have HN := Hid.mk (And.intro h1 (And.intro k1 k2))
        clear h1 h2 k1 k2
        repeat' (first | exact tf0 ‹_› | exact tf1 ‹_› | exact False.elim ‹_› | (with_reducible refine Al.intro ?_; intro pb hpb; (try simp only [hupd_none'] at hpb); (repeat rcases hpb with ⟨⟨hpx, hpy⟩, hpb⟩)) | with_reducible refine need ?_ | ((with_reducible first | apply frk0 | apply frk1 | apply frk2 | apply frk3 | apply frk4 | apply frk5 | apply frk6 | apply frk7 | apply frk8 | apply frk9) <;> intro h <;> try (exfalso; omega)) | with_reducible refine quiet_and ?_ ?_ | with_reducible refine awp_drawnA mixed (by decide +kernel) ?_ | ((fail_if_success with_reducible refine stp ?_); simp -implicitDefEqProofs only [go_sem, Nat.reduceEqDiff, Nat.reduceAdd, Nat.reduceLT, Nat.reduceMul, Nat.reduceSub, Nat.reduceLeDiff, ↓reduceIte, reduceCtorEq, ↓String.reduceEq, String.reduceNe, Int.reduceToNat, Int.reduceLT, Int.reduceLE, Int.reduceGT, Int.reduceGE, Int.reduceEq, Int.reduceNe, Int.reduceBEq, Int.reduceBNe, Int.reduceAdd, Int.reduceSub, Int.reduceMul, Int.reduceNeg,  *]))
        exact Again.intro ⟨L - (i + 1), by have := H.out; omega, _, Sub.refl _, v5, i + 1, .mk ⟨rfl, by omega, by rw [HS.out.2.1]; exact HN.out.1, HN.out.2.1, HN.out.2.2⟩, ttt, (by first | (simp only [upd, put, Nat.reduceEqDiff, ↓reduceIte, t25]; done) | (simp [upd, put, t25]; done) | rfl | (simp [upd, put, t25]; rfl)), (by first | (simp only [upd, put, Nat.reduceEqDiff, ↓reduceIte, t26]; done) | (simp [upd, put, t26]; done) | rfl | (simp [upd, put, t26]; rfl)), ttt⟩
      · have lt : ¬ (i : Int) < (L : Int) := by omega
        repeat' (first | exact tf0 ‹_› | exact tf1 ‹_› | exact False.elim ‹_› | (with_reducible refine Al.intro ?_; intro pb hpb; (try simp only [hupd_none'] at hpb); (repeat rcases hpb with ⟨⟨hpx, hpy⟩, hpb⟩)) | with_reducible refine need ?_ | ((with_reducible first | apply frk0 | apply frk1 | apply frk2 | apply frk3 | apply frk4 | apply frk5 | apply frk6 | apply frk7 | apply frk8 | apply frk9) <;> intro h <;> try (exfalso; omega)) | with_reducible refine quiet_and ?_ ?_ | with_reducible refine awp_drawnA mixed (by decide +kernel) ?_ | ((fail_if_success with_reducible refine stp ?_); simp -implicitDefEqProofs only [go_sem, Nat.reduceEqDiff, Nat.reduceAdd, Nat.reduceLT, Nat.reduceMul, Nat.reduceSub, Nat.reduceLeDiff, ↓reduceIte, reduceCtorEq, ↓String.reduceEq, String.reduceNe, Int.reduceToNat, Int.reduceLT, Int.reduceLE, Int.reduceGT, Int.reduceGE, Int.reduceEq, Int.reduceNe, Int.reduceBEq, Int.reduceBNe, Int.reduceAdd, Int.reduceSub, Int.reduceMul, Int.reduceNeg,  *]))
        exact Again.intro ⟨v, .mk ⟨by have h := H.out.2.2.1; rwa [List.take_of_length_le (by have := H0.out.2.2.2.2; omega)] at h, H.out.2.2.2⟩, (by first | (simp only [upd, put, Nat.reduceEqDiff, ↓reduceIte, t6]; done) | (simp [upd, put, t6]; done) | rfl | (simp [upd, put, t6]; rfl))⟩
    · rintro ts m4 ⟨v, H, t6⟩
      repeat' (first | exact tf0 ‹_› | exact tf1 ‹_› | exact False.elim ‹_› | (with_reducible refine Al.intro ?_; intro pb hpb; (try simp only [hupd_none'] at hpb); (repeat rcases hpb with ⟨⟨hpx, hpy⟩, hpb⟩)) | with_reducible refine need ?_ | ((with_reducible first | apply frk0 | apply frk1 | apply frk2 | apply frk3 | apply frk4 | apply frk5 | apply frk6 | apply frk7 | apply frk8 | apply frk9) <;> intro h <;> try (exfalso; omega)) | with_reducible refine quiet_and ?_ ?_ | with_reducible refine awp_drawnA mixed (by decide +kernel) ?_ | ((fail_if_success with_reducible refine stp ?_); simp -implicitDefEqProofs only [go_sem, Nat.reduceEqDiff, Nat.reduceAdd, Nat.reduceLT, Nat.reduceMul, Nat.reduceSub, Nat.reduceLeDiff, ↓reduceIte, reduceCtorEq, ↓String.reduceEq, String.reduceNe, Int.reduceToNat, Int.reduceLT, Int.reduceLE, Int.reduceGT, Int.reduceGE, Int.reduceEq, Int.reduceNe, Int.reduceBEq, Int.reduceBNe, Int.reduceAdd, Int.reduceSub, Int.reduceMul, Int.reduceNeg,  *]))
      refine ⟨_, Sub.refl _, ?_⟩
      (try rw [t6])
      exact H0.out.1 v m4 ⟨_, rfl, H.out.1, H.out.2.1, H.out.2.2⟩
end Go.Proofs.YtdckcophbmnjjaaGreatDoor
