/- If streams pass the test of demand nothing is late: the law. -/
import Derived.Test.YtmifapnmlhchlaaE33
set_option linter.all false
namespace Go.Proofs.Ytmifapnmlhchlaa
open Go Go.Proofs.Ytmifapnmlhchlaa.Ab
open Go.Proofs (Try.prog)
set_option maxRecDepth 100000
/-- A stream with a longer period, and a later deadline. -/
def bumpS (s : Stm) : Stm := (s.1, s.2.1, s.2.2.1, s.2.2.2.1 + 1000, s.2.2.2.2.1 + 700, s.2.2.2.2.2.1, s.2.2.2.2.2.2)
def bumpN (C : List Stm) (i : Nat) : List Stm := (C.take i).map bumpS ++ C.drop i
/-- One cell of a row is written. -/
theorem cell_set {α : Type} [Inhabited α] {enc : α → List AVal} {sz : Nat} (henc : ∀ a, (enc a).length = sz) (A B : List α) (x y : α) (pre post : List AVal) (k : Nat) (hk : k < sz) (w : AVal) (hy : enc y = (enc x).set k w) :
    splice (pre ++ ((A ++ x :: B).flatMap enc ++ post)) (pre.length + A.length * sz + k) [w] = pre ++ ((A ++ y :: B).flatMap enc ++ post) := by
  have hA : (A.flatMap enc).length = A.length * sz := flat_len henc A
  have gen : ∀ (P X Q : List AVal) (k : Nat), k < X.length → splice (P ++ (X ++ Q)) (P.length + k) [w] = P ++ (X.set k w ++ Q) := by
    intro P X Q k hk
    have h1 : splice (P ++ (X ++ Q)) (P.length + k) [w] = (P ++ (X ++ Q)).set (P.length + k) w := by
      rw [List.set_eq_take_append_cons_drop, if_pos (by simp only [List.length_append]; omega)]
      unfold splice
      simp
    rw [h1, List.set_append_right _ _ (by omega), Nat.add_sub_cancel_left, List.set_append_left _ _ hk]
  have e1 : pre ++ ((A ++ x :: B).flatMap enc ++ post) = (pre ++ A.flatMap enc) ++ (enc x ++ (B.flatMap enc ++ post)) := by simp [List.flatMap_append]
  have e2 : pre ++ ((A ++ y :: B).flatMap enc ++ post) = (pre ++ A.flatMap enc) ++ (enc y ++ (B.flatMap enc ++ post)) := by simp [List.flatMap_append]
  rw [e1, e2, hy, ← gen _ _ _ _ (by rw [henc]; exact hk), List.length_append, hA]
theorem bump_in (l : List Stm) : ∀ s ∈ (fewN l 6).map bumpS, rightS s = 0 ∧ s.2.2.2.1 ≤ 10000 := by
  intro s hs
  obtain ⟨x, hx, rfl⟩ := List.mem_map.1 hs
  unfold fewN at hx
  obtain ⟨p, hp, rfl⟩ := List.mem_map.1 hx
  have hz := (List.mem_zipIdx hp).2.1
  rw [List.length_take] at hz
  have a1 := partF_in p.1.2.1 4 (by decide)
  have a2 := partF_in p.1.2.2.1 3 (by decide)
  have a3 := partF_in p.1.2.2.2.1 4000 (by decide)
  have a4 := partF_in p.1.2.2.2.2.1 (partF p.1.2.2.2.1 4000 + 101) (by omega)
  have a5 := partF_in p.1.2.2.2.2.2.1 256 (by decide)
  have a6 := partF_in p.1.2.2.2.2.2.2 9 (by decide)
  rw [rightS_zero]
  unfold bumpS streamF
  simp only
  omega
theorem few_in (l : List Stm) : ∀ s ∈ fewN l 6, (0 ≤ s.2.2.2.1 ∧ s.2.2.2.1 ≤ 10000) ∧ 0 ≤ s.2.2.2.2.1 ∧ s.2.2.2.2.1 ≤ 10000 := by
  intro x hx
  unfold fewN at hx
  obtain ⟨p, hp, rfl⟩ := List.mem_map.1 hx
  have a3 := partF_in p.1.2.2.2.1 4000 (by decide)
  have a4 := partF_in p.1.2.2.2.2.1 (partF p.1.2.2.2.1 4000 + 101) (by omega)
  unfold streamF
  simp only
  omega
set_option maxHeartbeats 4000000 in
theorem edfMeets_spec (G : Nat → AVal) (l : List Stm) (hll : l.length < 9223372036854775808) (len : Int) (h0 : 0 ≤ len) (h1 : len ≤ 255) (c : List Cm) (hcl : c.length < 9223372036854775808) (hcr : ∀ x ∈ c, 0 ≤ x.2 ∧ x.2 ≤ 65535) :
    CallWP Try.prog G 7 [.list 7 (l.map encS), .int .u8 len, .list 2 (c.map encCm)] (fun _ => none) fun v m' => v = .bool true ∧ m' = fun _ => none := by
  have w1 : IntKind.i64.wrap len = len := wrap_i64 (by omega) (by omega)
  have q1 := Int.tmod_nonneg (a := len) 100 h0
  have q2 := Int.tmod_lt_of_pos len (show (0 : Int) < 100 by decide)
  obtain ⟨n, hn⟩ : ∃ n, n = len.tmod 100 + 1 := ⟨_, rfl⟩
  have w2 : IntKind.i64.wrap (len.tmod 100) = len.tmod 100 := wrap_i64 (by omega) (by omega)
  have w3 : IntKind.i64.wrap (len.tmod 100 + 1) = n := by rw [wrap_i64 (by omega) (by omega)]; exact hn.symm
  have hn1 : 1 ≤ n := by omega
  have hn2 : n ≤ 100 := by omega
  have HL := Hid.mk (And.intro hll (And.intro hcl hcr))
  clear h0 h1 q1 q2 hn hll hcl hcr
  refine callWP_body Try.func7 rfl (N := 76) rfl (rs := [.tmp 6]) rfl en_7 (of_decide_eq_true rfl) ?_
  repeat' (first | exact tf0 ‹_› | exact tf1 ‹_› | exact False.elim ‹_› | (with_reducible refine Al.intro ?_; intro pb hpb; (try simp only [hupd_none'] at hpb); (repeat rcases hpb with ⟨⟨hpx, hpy⟩, hpb⟩)) | with_reducible refine need ?_ | ((with_reducible first | refine frk0 ?_ ?_ | refine frk1 ?_ ?_ | refine frk2 ?_ ?_ | refine frk3 ?_ ?_ | refine frk4 ?_ ?_ | refine frk5 ?_ ?_ | refine frk6 ?_ ?_ | refine frk7 ?_ ?_ | refine frk8 ?_ ?_ | refine frk9 ?_ ?_) <;> intro h <;> try (exfalso; omega)) | with_reducible refine quiet_and ?_ ?_ | with_reducible refine awp_drawnA mixed (by decide +kernel) ?_ | ((fail_if_success with_reducible refine stp ?_); simp -implicitDefEqProofs only [go_sem, Nat.reduceEqDiff, Nat.reduceAdd, Nat.reduceLT, Nat.reduceMul, Nat.reduceSub, Nat.reduceLeDiff, ↓reduceIte, reduceCtorEq, ↓String.reduceEq, String.reduceNe, Int.reduceToNat, Int.reduceLT, Int.reduceLE, Int.reduceGT, Int.reduceGE, Int.reduceEq, Int.reduceNe, Int.reduceBEq, Int.reduceBNe, Int.reduceAdd, Int.reduceSub, Int.reduceMul, Int.reduceNeg,  *]))
  refine few_spec G l HL.out.1 _ _ (fun v m1 hs1 _ _ => ?_)
  obtain ⟨C, hC⟩ : ∃ C, C = fewN l 6 := ⟨_, rfl⟩
  rw [← hC] at hs1
  obtain ⟨C2, hC2⟩ : ∃ C2, C2 = C.map bumpS := ⟨_, rfl⟩
  have HC2 : Hid (C2 = C.map bumpS ∧ C.length ≤ 6 ∧ C2.length ≤ 6 ∧ ∀ s ∈ C2, rightS s = 0 ∧ s.2.2.2.1 ≤ 10000) := .mk (by
    have h6 : C.length ≤ 6 := by rw [hC, few_len]; omega
    refine ⟨hC2, h6, by rw [hC2, List.length_map]; exact h6, ?_⟩
    rw [hC2, hC]; exact bump_in l)
  have HCI : Hid (∀ s ∈ C, (0 ≤ s.2.2.2.1 ∧ s.2.2.2.1 ≤ 10000) ∧ 0 ≤ s.2.2.2.2.1 ∧ s.2.2.2.2.1 ≤ 10000) := .mk (by rw [hC]; exact few_in l)
  clear hC hC2
  have HS1 := Hid.mk hs1
  have hL6 := HC2.out.2.1
  obtain ⟨L, hL⟩ : ∃ L, L = C.length := ⟨_, rfl⟩
  have H0 := Hid.mk hL
  have hv : (v = .nils ∧ L = 0) ∨ ∃ b o cap, v = .slice b o L cap := by
    rcases hs1.slv with ⟨a, b⟩ | h
    · exact .inl ⟨a, by rw [hL, b]; rfl⟩
    · rw [hL]; exact .inr h
  rw [← hL] at hL6
  clear hL hs1
  rcases hv with ⟨rfl, hz⟩ | ⟨b, o, cap, rfl⟩
  · have HN : Hid (SlM encSc 7 C2 .nils m1) := .mk (by
      have : C = [] := List.eq_nil_of_length_eq_zero (by have := H0.out; omega)
      rw [HC2.out.1, this]; exact .inl ⟨rfl, rfl⟩)
    subst hz
    clear hL6
    repeat' (first | exact tf0 ‹_› | exact tf1 ‹_› | exact False.elim ‹_› | (with_reducible refine Al.intro ?_; intro pb hpb; (try simp only [hupd_none'] at hpb); (repeat rcases hpb with ⟨⟨hpx, hpy⟩, hpb⟩)) | with_reducible refine need ?_ | ((with_reducible first | refine frk0 ?_ ?_ | refine frk1 ?_ ?_ | refine frk2 ?_ ?_ | refine frk3 ?_ ?_ | refine frk4 ?_ ?_ | refine frk5 ?_ ?_ | refine frk6 ?_ ?_ | refine frk7 ?_ ?_ | refine frk8 ?_ ?_ | refine frk9 ?_ ?_) <;> intro h <;> try (exfalso; omega)) | with_reducible refine quiet_and ?_ ?_ | with_reducible refine awp_drawnA mixed (by decide +kernel) ?_ | ((fail_if_success with_reducible refine stp ?_); simp -implicitDefEqProofs only [go_sem, Nat.reduceEqDiff, Nat.reduceAdd, Nat.reduceLT, Nat.reduceMul, Nat.reduceSub, Nat.reduceLeDiff, ↓reduceIte, reduceCtorEq, ↓String.reduceEq, String.reduceNe, Int.reduceToNat, Int.reduceLT, Int.reduceLE, Int.reduceGT, Int.reduceGE, Int.reduceEq, Int.reduceNe, Int.reduceBEq, Int.reduceBNe, Int.reduceAdd, Int.reduceSub, Int.reduceMul, Int.reduceNeg,  *]))
    refine awp_loopP 0 (fun ts m' => Hid (SlM encSc 7 C2 .nils m') ∧ ts 1 = .int .u8 len ∧ ts 2 = .list 2 (c.map encCm) ∧ ts 7 = .nils) (fun k ts m' => ts 1 = .int .u8 len ∧ ts 2 = .list 2 (c.map encCm) ∧ ts 7 = .nils ∧ ts 8 = .int .i64 0 ∧ m' = m1) 0 ⟨ttt, ttt, ttt, ttt, rfl⟩ ?_ ?_
    · rintro k ts m2 ⟨t1, t2, t7, t8, hm2⟩
      subst m2
      repeat' (first | exact tf0 ‹_› | exact tf1 ‹_› | exact False.elim ‹_› | (with_reducible refine Al.intro ?_; intro pb hpb; (try simp only [hupd_none'] at hpb); (repeat rcases hpb with ⟨⟨hpx, hpy⟩, hpb⟩)) | with_reducible refine need ?_ | ((with_reducible first | refine frk0 ?_ ?_ | refine frk1 ?_ ?_ | refine frk2 ?_ ?_ | refine frk3 ?_ ?_ | refine frk4 ?_ ?_ | refine frk5 ?_ ?_ | refine frk6 ?_ ?_ | refine frk7 ?_ ?_ | refine frk8 ?_ ?_ | refine frk9 ?_ ?_) <;> intro h <;> try (exfalso; omega)) | with_reducible refine quiet_and ?_ ?_ | with_reducible refine awp_drawnA mixed (by decide +kernel) ?_ | ((fail_if_success with_reducible refine stp ?_); simp -implicitDefEqProofs only [go_sem, Nat.reduceEqDiff, Nat.reduceAdd, Nat.reduceLT, Nat.reduceMul, Nat.reduceSub, Nat.reduceLeDiff, ↓reduceIte, reduceCtorEq, ↓String.reduceEq, String.reduceNe, Int.reduceToNat, Int.reduceLT, Int.reduceLE, Int.reduceGT, Int.reduceGE, Int.reduceEq, Int.reduceNe, Int.reduceBEq, Int.reduceBNe, Int.reduceAdd, Int.reduceSub, Int.reduceMul, Int.reduceNeg,  *]))
      exact Again.intro ⟨HN, (by first | (simp only [upd, put, Nat.reduceEqDiff, ↓reduceIte, t1]; done) | (simp [upd, put, t1]; done) | rfl | (simp [upd, put, t1]; rfl)), (by first | (simp only [upd, put, Nat.reduceEqDiff, ↓reduceIte, t2]; done) | (simp [upd, put, t2]; done) | rfl | (simp [upd, put, t2]; rfl)), (by first | (simp only [upd, put, Nat.reduceEqDiff, ↓reduceIte, t7]; done) | (simp [upd, put, t7]; done) | rfl | (simp [upd, put, t7]; rfl))⟩
    · rintro ts m3 ⟨H, t1, t2, t7⟩
      repeat' (first | exact tf0 ‹_› | exact tf1 ‹_› | exact False.elim ‹_› | (with_reducible refine Al.intro ?_; intro pb hpb; (try simp only [hupd_none'] at hpb); (repeat rcases hpb with ⟨⟨hpx, hpy⟩, hpb⟩)) | with_reducible refine need ?_ | ((with_reducible first | refine frk0 ?_ ?_ | refine frk1 ?_ ?_ | refine frk2 ?_ ?_ | refine frk3 ?_ ?_ | refine frk4 ?_ ?_ | refine frk5 ?_ ?_ | refine frk6 ?_ ?_ | refine frk7 ?_ ?_ | refine frk8 ?_ ?_ | refine frk9 ?_ ?_) <;> intro h <;> try (exfalso; omega)) | with_reducible refine quiet_and ?_ ?_ | with_reducible refine awp_drawnA mixed (by decide +kernel) ?_ | ((fail_if_success with_reducible refine stp ?_); simp -implicitDefEqProofs only [go_sem, Nat.reduceEqDiff, Nat.reduceAdd, Nat.reduceLT, Nat.reduceMul, Nat.reduceSub, Nat.reduceLeDiff, ↓reduceIte, reduceCtorEq, ↓String.reduceEq, String.reduceNe, Int.reduceToNat, Int.reduceLT, Int.reduceLE, Int.reduceGT, Int.reduceGE, Int.reduceEq, Int.reduceNe, Int.reduceBEq, Int.reduceBNe, Int.reduceAdd, Int.reduceSub, Int.reduceMul, Int.reduceNeg,  *]))
      refine rpass_spec G C2 (by have := HC2.out.2.2.1; omega) n 9000 _ m3 (.inl H.out) _ (fun a ok hpass => ?_)
      have HPass := Hid.mk hpass
      clear hpass
      repeat' (first | exact tf0 ‹_› | exact tf1 ‹_› | exact False.elim ‹_› | (with_reducible refine Al.intro ?_; intro pb hpb; (try simp only [hupd_none'] at hpb); (repeat rcases hpb with ⟨⟨hpx, hpy⟩, hpb⟩)) | with_reducible refine need ?_ | ((with_reducible first | refine frk0 ?_ ?_ | refine frk1 ?_ ?_ | refine frk2 ?_ ?_ | refine frk3 ?_ ?_ | refine frk4 ?_ ?_ | refine frk5 ?_ ?_ | refine frk6 ?_ ?_ | refine frk7 ?_ ?_ | refine frk8 ?_ ?_ | refine frk9 ?_ ?_) <;> intro h <;> try (exfalso; omega)) | with_reducible refine quiet_and ?_ ?_ | with_reducible refine awp_drawnA mixed (by decide +kernel) ?_ | ((fail_if_success with_reducible refine stp ?_); simp -implicitDefEqProofs only [go_sem, Nat.reduceEqDiff, Nat.reduceAdd, Nat.reduceLT, Nat.reduceMul, Nat.reduceSub, Nat.reduceLeDiff, ↓reduceIte, reduceCtorEq, ↓String.reduceEq, String.reduceNe, Int.reduceToNat, Int.reduceLT, Int.reduceLE, Int.reduceGT, Int.reduceGE, Int.reduceEq, Int.reduceNe, Int.reduceBEq, Int.reduceBNe, Int.reduceAdd, Int.reduceSub, Int.reduceMul, Int.reduceNeg,  *]))
      refine cjobs_spec G C2 ⟨HC2.out.2.2.1, HC2.out.2.2.2⟩ c HL.out.2.1 HL.out.2.2 _ m3 H.out _ (fun T vj m4 hT hTl hsj _ _ => ?_)
      have HT := Hid.mk (And.intro hT (And.intro hTl hsj))
      have hchk : checkF (T.map (jobT C2)) n = 0 := by
        unfold checkF
        rw [if_neg (by simpa using ⟨by omega, by omega⟩), if_neg (by rw [List.length_map]; omega), if_neg]
        intro h
        obtain ⟨j, hj, hr⟩ := List.any_eq_true.1 h
        obtain ⟨x, hx, rfl⟩ := List.mem_map.1 hj
        rw [jobT_right hT (fun s hs => (HC2.out.2.2.2 s hs).1) x hx] at hr
        cases hr
      have HChk := Hid.mk hchk
      clear hT hTl hsj hchk
      repeat' (first | exact tf0 ‹_› | exact tf1 ‹_› | exact False.elim ‹_› | (with_reducible refine Al.intro ?_; intro pb hpb; (try simp only [hupd_none'] at hpb); (repeat rcases hpb with ⟨⟨hpx, hpy⟩, hpb⟩)) | with_reducible refine need ?_ | ((with_reducible first | refine frk0 ?_ ?_ | refine frk1 ?_ ?_ | refine frk2 ?_ ?_ | refine frk3 ?_ ?_ | refine frk4 ?_ ?_ | refine frk5 ?_ ?_ | refine frk6 ?_ ?_ | refine frk7 ?_ ?_ | refine frk8 ?_ ?_ | refine frk9 ?_ ?_) <;> intro h <;> try (exfalso; omega)) | with_reducible refine quiet_and ?_ ?_ | with_reducible refine awp_drawnA mixed (by decide +kernel) ?_ | ((fail_if_success with_reducible refine stp ?_); simp -implicitDefEqProofs only [go_sem, Nat.reduceEqDiff, Nat.reduceAdd, Nat.reduceLT, Nat.reduceMul, Nat.reduceSub, Nat.reduceLeDiff, ↓reduceIte, reduceCtorEq, ↓String.reduceEq, String.reduceNe, Int.reduceToNat, Int.reduceLT, Int.reduceLE, Int.reduceGT, Int.reduceGE, Int.reduceEq, Int.reduceNe, Int.reduceBEq, Int.reduceBNe, Int.reduceAdd, Int.reduceSub, Int.reduceMul, Int.reduceNeg,  *]))
      refine late_spec G (T.map (jobT C2)) n vj m4 (.inl HT.out.2.2) _ (fun h => absurd HChk.out h) (fun _ S v3 m5 hse hs3 _ _ => ?_)
      have hlate : ok = true → latesOf S = [] := by
        intro hok
        rcases HPass.out with ⟨-, -, h⟩ | ⟨hr, -, ⟨-, -, hp⟩ | ⟨-, h, -⟩⟩
        · rw [hok] at h; cases h
        · unfold latesOf
          rw [List.filter_eq_nil_iff.2 (fun x hx => by rw [meets HT.out.1 HT.out.2.1 (by omega) hr hp hse x hx]; simp)]; rfl
        · rw [hok] at h; cases h
      have HLt := Hid.mk hlate
      have HS3 := Hid.mk hs3
      clear hlate hs3 hse
      repeat' (first | exact tf0 ‹_› | exact tf1 ‹_› | exact False.elim ‹_› | (with_reducible refine Al.intro ?_; intro pb hpb; (try simp only [hupd_none'] at hpb); (repeat rcases hpb with ⟨⟨hpx, hpy⟩, hpb⟩)) | with_reducible refine need ?_ | ((with_reducible first | refine frk0 ?_ ?_ | refine frk1 ?_ ?_ | refine frk2 ?_ ?_ | refine frk3 ?_ ?_ | refine frk4 ?_ ?_ | refine frk5 ?_ ?_ | refine frk6 ?_ ?_ | refine frk7 ?_ ?_ | refine frk8 ?_ ?_ | refine frk9 ?_ ?_) <;> intro h <;> try (exfalso; omega)) | with_reducible refine quiet_and ?_ ?_ | with_reducible refine awp_drawnA mixed (by decide +kernel) ?_ | ((fail_if_success with_reducible refine stp ?_); simp -implicitDefEqProofs only [go_sem, Nat.reduceEqDiff, Nat.reduceAdd, Nat.reduceLT, Nat.reduceMul, Nat.reduceSub, Nat.reduceLeDiff, ↓reduceIte, reduceCtorEq, ↓String.reduceEq, String.reduceNe, Int.reduceToNat, Int.reduceLT, Int.reduceLE, Int.reduceGT, Int.reduceGE, Int.reduceEq, Int.reduceNe, Int.reduceBEq, Int.reduceBNe, Int.reduceAdd, Int.reduceSub, Int.reduceMul, Int.reduceNeg,  *]))
      refine CallWP.to (live_spec G _) ?_
      cases ok with
      | false =>
        repeat' (first | exact tf0 ‹_› | exact tf1 ‹_› | exact False.elim ‹_› | (with_reducible refine Al.intro ?_; intro pb hpb; (try simp only [hupd_none'] at hpb); (repeat rcases hpb with ⟨⟨hpx, hpy⟩, hpb⟩)) | with_reducible refine need ?_ | ((with_reducible first | refine frk0 ?_ ?_ | refine frk1 ?_ ?_ | refine frk2 ?_ ?_ | refine frk3 ?_ ?_ | refine frk4 ?_ ?_ | refine frk5 ?_ ?_ | refine frk6 ?_ ?_ | refine frk7 ?_ ?_ | refine frk8 ?_ ?_ | refine frk9 ?_ ?_) <;> intro h <;> try (exfalso; omega)) | with_reducible refine quiet_and ?_ ?_ | with_reducible refine awp_drawnA mixed (by decide +kernel) ?_ | ((fail_if_success with_reducible refine stp ?_); simp -implicitDefEqProofs only [go_sem, Nat.reduceEqDiff, Nat.reduceAdd, Nat.reduceLT, Nat.reduceMul, Nat.reduceSub, Nat.reduceLeDiff, ↓reduceIte, reduceCtorEq, ↓String.reduceEq, String.reduceNe, Int.reduceToNat, Int.reduceLT, Int.reduceLE, Int.reduceGT, Int.reduceGE, Int.reduceEq, Int.reduceNe, Int.reduceBEq, Int.reduceBNe, Int.reduceAdd, Int.reduceSub, Int.reduceMul, Int.reduceNeg,  *]))
        exact ⟨fun _ => none, (by intro x y h; cases h), rfl, rfl⟩
      | true =>
        have h3 : v3 = .nils ∨ ∃ b o c, v3 = .slice b o 0 c := by
          have h := HS3.out.slv
          rw [HLt.out rfl, show srtI [] = [] from (srtI_eq .nil (.refl _)).symm] at h
          rcases h with ⟨h, -⟩ | ⟨b, o, c, h⟩
          · exact .inl h
          · exact .inr ⟨b, o, c, h⟩
        clear HS3
        rcases h3 with rfl | ⟨b3, o3, c3, rfl⟩
        all_goals (
          repeat' (first | exact tf0 ‹_› | exact tf1 ‹_› | exact False.elim ‹_› | (with_reducible refine Al.intro ?_; intro pb hpb; (try simp only [hupd_none'] at hpb); (repeat rcases hpb with ⟨⟨hpx, hpy⟩, hpb⟩)) | with_reducible refine need ?_ | ((with_reducible first | refine frk0 ?_ ?_ | refine frk1 ?_ ?_ | refine frk2 ?_ ?_ | refine frk3 ?_ ?_ | refine frk4 ?_ ?_ | refine frk5 ?_ ?_ | refine frk6 ?_ ?_ | refine frk7 ?_ ?_ | refine frk8 ?_ ?_ | refine frk9 ?_ ?_) <;> intro h <;> try (exfalso; omega)) | with_reducible refine quiet_and ?_ ?_ | with_reducible refine awp_drawnA mixed (by decide +kernel) ?_ | ((fail_if_success with_reducible refine stp ?_); simp -implicitDefEqProofs only [go_sem, Nat.reduceEqDiff, Nat.reduceAdd, Nat.reduceLT, Nat.reduceMul, Nat.reduceSub, Nat.reduceLeDiff, ↓reduceIte, reduceCtorEq, ↓String.reduceEq, String.reduceNe, Int.reduceToNat, Int.reduceLT, Int.reduceLE, Int.reduceGT, Int.reduceGE, Int.reduceEq, Int.reduceNe, Int.reduceBEq, Int.reduceBNe, Int.reduceAdd, Int.reduceSub, Int.reduceMul, Int.reduceNeg,  *]))
          exact ⟨fun _ => none, (by intro x y h; cases h), rfl, rfl⟩)
  · obtain ⟨pre, post, N, rfl, -, hb, hN, hcap⟩ := slm_slice HS1.out
    have HB := Hid.mk (And.intro hN hcap)
    clear hN hcap
    repeat' (first | exact tf0 ‹_› | exact tf1 ‹_› | exact False.elim ‹_› | (with_reducible refine Al.intro ?_; intro pb hpb; (try simp only [hupd_none'] at hpb); (repeat rcases hpb with ⟨⟨hpx, hpy⟩, hpb⟩)) | with_reducible refine need ?_ | ((with_reducible first | refine frk0 ?_ ?_ | refine frk1 ?_ ?_ | refine frk2 ?_ ?_ | refine frk3 ?_ ?_ | refine frk4 ?_ ?_ | refine frk5 ?_ ?_ | refine frk6 ?_ ?_ | refine frk7 ?_ ?_ | refine frk8 ?_ ?_ | refine frk9 ?_ ?_) <;> intro h <;> try (exfalso; omega)) | with_reducible refine quiet_and ?_ ?_ | with_reducible refine awp_drawnA mixed (by decide +kernel) ?_ | ((fail_if_success with_reducible refine stp ?_); simp -implicitDefEqProofs only [go_sem, Nat.reduceEqDiff, Nat.reduceAdd, Nat.reduceLT, Nat.reduceMul, Nat.reduceSub, Nat.reduceLeDiff, ↓reduceIte, reduceCtorEq, ↓String.reduceEq, String.reduceNe, Int.reduceToNat, Int.reduceLT, Int.reduceLE, Int.reduceGT, Int.reduceGE, Int.reduceEq, Int.reduceNe, Int.reduceBEq, Int.reduceBNe, Int.reduceAdd, Int.reduceSub, Int.reduceMul, Int.reduceNeg,  *]))
    refine awp_loopP 0 (fun ts m' => Hid (SlM encSc 7 C2 (.slice b pre.length L cap) m') ∧ ts 1 = .int .u8 len ∧ ts 2 = .list 2 (c.map encCm) ∧ ts 7 = .slice b pre.length L cap)
      (fun k ts m' => ∃ i : Nat, Hid (k = L - i ∧ i ≤ L) ∧ ts 1 = .int .u8 len ∧ ts 2 = .list 2 (c.map encCm) ∧ ts 7 = .slice b pre.length L cap ∧ ts 8 = .int .i64 (i : Nat) ∧ m' = hupd m1 b (.cells (pre ++ ((bumpN C i).flatMap encSc ++ post)) N)) L
      ⟨0, .mk ⟨rfl, Nat.zero_le _⟩, ttt, ttt, ttt, ttt, by funext z; rw [hupd_at]; split
                                                           · rename_i h; rw [h, hb]; simp [bumpN]
                                                           · rfl⟩ ?_ ?_
    · rintro k ts m2 ⟨i, H, t1, t2, t7, t8, hm2⟩
      subst m2
      by_cases hi : i < L
      · have lt : (i : Int) < (L : Int) := by omega
        have hiC : i < C.length := by have := H0.out; omega
        obtain ⟨x, hx⟩ : ∃ x, C.getD i default = x := ⟨_, rfl⟩
        have hxc := HCI.out x (by rw [← hx]; exact getD_mem C i hiC)
        obtain ⟨y, hy⟩ : ∃ y : Stm, y = (x.1, x.2.1, x.2.2.1, x.2.2.2.1 + 1000, x.2.2.2.2.1, x.2.2.2.2.2.1, x.2.2.2.2.2.2) := ⟨_, rfl⟩
        obtain ⟨A, hA⟩ : ∃ A, A = (C.take i).map bumpS := ⟨_, rfl⟩
        obtain ⟨B, hBd⟩ : ∃ B, B = C.drop (i + 1) := ⟨_, rfl⟩
        have hAl : A.length = i := by rw [hA, List.length_map, List.length_take]; omega
        have hd : C.drop i = x :: B := by
          rw [hBd, ← hx]
          rw [List.drop_eq_getElem_cons hiC]
          simp [List.getD_eq_getElem?_getD, hiC]
        have b0 : bumpN C i = A ++ x :: B := by unfold bumpN; rw [hd, ← hA]
        have b1 : bumpN C (i + 1) = A ++ bumpS x :: B := by
          unfold bumpN
          rw [take_one C i hiC, List.map_append, hx, ← hA, ← hBd]
          simp
        have s1 := cell_set (enc := encSc) (sz := 7) encSc_len A B x y pre post 3 (by decide) (.int .i64 (x.2.2.2.1 + 1000)) (by rw [hy]; rfl)
        have s2 := cell_set (enc := encSc) (sz := 7) encSc_len A B y (bumpS x) pre post 4 (by decide) (.int .i64 (x.2.2.2.2.1 + 700)) (by rw [hy]; rfl)
        have gx : (A ++ x :: B).getD i default = x := by rw [← hAl]; simp [List.getD_eq_getElem?_getD]
        have gy : (A ++ y :: B).getD i default = y := by rw [← hAl]; simp [List.getD_eq_getElem?_getD]
        have g1 := sm_cell (A ++ x :: B) pre post i (by rw [List.length_append, hAl]; simp) x gx 3 (by decide)
        have g2 := sm_cell (A ++ y :: B) pre post i (by rw [List.length_append, hAl]; simp) y gy 4 (by decide)
        rw [show (encSc x).getD 3 .undef = .int .i64 x.2.2.2.1 from rfl] at g1
        rw [show (encSc y).getD 4 .undef = .int .i64 x.2.2.2.2.1 by rw [hy]; rfl] at g2
        have l1 := sm_len (A ++ x :: B) pre post i (by rw [List.length_append, hAl]; simp)
        have l2 := sm_len (A ++ y :: B) pre post i (by rw [List.length_append, hAl]; simp)
        rw [hAl] at s1 s2
        have w4 : IntKind.i64.wrap (x.2.2.2.1 + 1000) = x.2.2.2.1 + 1000 := wrap_i64 (by omega) (by omega)
        have w5 : IntKind.i64.wrap (x.2.2.2.2.1 + 700) = x.2.2.2.2.1 + 700 := wrap_i64 (by omega) (by omega)
        have w6 : IntKind.i64.wrap ((i : Int) + 1) = ((i + 1 : Nat) : Int) := by rw [wrap_i64 (by omega) (by omega)]; omega
        rw [b0]
        have HB1 := Hid.mk b1
        obtain ⟨R0, hR0⟩ : ∃ R, R = pre ++ ((A ++ x :: B).flatMap encSc ++ post) := ⟨_, rfl⟩
        obtain ⟨R1, hR1⟩ : ∃ R, R = pre ++ ((A ++ y :: B).flatMap encSc ++ post) := ⟨_, rfl⟩
        obtain ⟨R2, hR2⟩ : ∃ R, R = pre ++ ((A ++ bumpS x :: B).flatMap encSc ++ post) := ⟨_, rfl⟩
        rw [← hR0] at s1 g1 l1 ⊢
        rw [← hR1] at s1 s2 g2 l2
        rw [← hR2] at s2
        have HR2 := Hid.mk hR2
        clear hx hxc hy hA hBd hAl hd b0 b1 gx gy hiC hR0 hR1 hR2
        repeat' (first | exact tf0 ‹_› | exact tf1 ‹_› | exact False.elim ‹_› | (with_reducible refine Al.intro ?_; intro pb hpb; (try simp only [hupd_none'] at hpb); (repeat rcases hpb with ⟨⟨hpx, hpy⟩, hpb⟩)) | with_reducible refine need ?_ | ((with_reducible first | refine frk0 ?_ ?_ | refine frk1 ?_ ?_ | refine frk2 ?_ ?_ | refine frk3 ?_ ?_ | refine frk4 ?_ ?_ | refine frk5 ?_ ?_ | refine frk6 ?_ ?_ | refine frk7 ?_ ?_ | refine frk8 ?_ ?_ | refine frk9 ?_ ?_) <;> intro h <;> try (exfalso; omega)) | with_reducible refine quiet_and ?_ ?_ | with_reducible refine awp_drawnA mixed (by decide +kernel) ?_ | ((fail_if_success with_reducible refine stp ?_); simp -implicitDefEqProofs only [go_sem, Nat.reduceEqDiff, Nat.reduceAdd, Nat.reduceLT, Nat.reduceMul, Nat.reduceSub, Nat.reduceLeDiff, ↓reduceIte, reduceCtorEq, ↓String.reduceEq, String.reduceNe, Int.reduceToNat, Int.reduceLT, Int.reduceLE, Int.reduceGT, Int.reduceGE, Int.reduceEq, Int.reduceNe, Int.reduceBEq, Int.reduceBNe, Int.reduceAdd, Int.reduceSub, Int.reduceMul, Int.reduceNeg,  *]))
        exact Again.intro ⟨L - (i + 1), by have := H.out; omega, _, Sub.refl _, i + 1, .mk ⟨rfl, by omega⟩, (by first | (simp only [upd, put, Nat.reduceEqDiff, ↓reduceIte, t1]; done) | (simp [upd, put, t1]; done) | rfl | (simp [upd, put, t1]; rfl)), (by first | (simp only [upd, put, Nat.reduceEqDiff, ↓reduceIte, t2]; done) | (simp [upd, put, t2]; done) | rfl | (simp [upd, put, t2]; rfl)), (by first | (simp only [upd, put, Nat.reduceEqDiff, ↓reduceIte, t7]; done) | (simp [upd, put, t7]; done) | rfl | (simp [upd, put, t7]; rfl)), ttt, by rw [HB1.out, ← HR2.out]; (try simp only [hupd_hupd])⟩
      · have lt : ¬ (i : Int) < (L : Int) := by omega
        have HE : Hid (bumpN C i = C2) := .mk (by
          have e : i = C.length := by have := H.out; have := H0.out; omega
          unfold bumpN
          rw [e, List.take_length, List.drop_length, List.append_nil, HC2.out.1])
        repeat' (first | exact tf0 ‹_› | exact tf1 ‹_› | exact False.elim ‹_› | (with_reducible refine Al.intro ?_; intro pb hpb; (try simp only [hupd_none'] at hpb); (repeat rcases hpb with ⟨⟨hpx, hpy⟩, hpb⟩)) | with_reducible refine need ?_ | ((with_reducible first | refine frk0 ?_ ?_ | refine frk1 ?_ ?_ | refine frk2 ?_ ?_ | refine frk3 ?_ ?_ | refine frk4 ?_ ?_ | refine frk5 ?_ ?_ | refine frk6 ?_ ?_ | refine frk7 ?_ ?_ | refine frk8 ?_ ?_ | refine frk9 ?_ ?_) <;> intro h <;> try (exfalso; omega)) | with_reducible refine quiet_and ?_ ?_ | with_reducible refine awp_drawnA mixed (by decide +kernel) ?_ | ((fail_if_success with_reducible refine stp ?_); simp -implicitDefEqProofs only [go_sem, Nat.reduceEqDiff, Nat.reduceAdd, Nat.reduceLT, Nat.reduceMul, Nat.reduceSub, Nat.reduceLeDiff, ↓reduceIte, reduceCtorEq, ↓String.reduceEq, String.reduceNe, Int.reduceToNat, Int.reduceLT, Int.reduceLE, Int.reduceGT, Int.reduceGE, Int.reduceEq, Int.reduceNe, Int.reduceBEq, Int.reduceBNe, Int.reduceAdd, Int.reduceSub, Int.reduceMul, Int.reduceNeg,  *]))
        exact Again.intro ⟨.mk (.inr ⟨b, _, by rw [hupd_at, if_pos rfl], pre, post, N, cap, by rw [H0.out, HC2.out.1, List.length_map], by rw [HE.out], HB.out.1, by rw [HC2.out.1, List.length_map]; exact HB.out.2⟩), (by first | (simp only [upd, put, Nat.reduceEqDiff, ↓reduceIte, t1]; done) | (simp [upd, put, t1]; done) | rfl | (simp [upd, put, t1]; rfl)), (by first | (simp only [upd, put, Nat.reduceEqDiff, ↓reduceIte, t2]; done) | (simp [upd, put, t2]; done) | rfl | (simp [upd, put, t2]; rfl)), (by first | (simp only [upd, put, Nat.reduceEqDiff, ↓reduceIte, t7]; done) | (simp [upd, put, t7]; done) | rfl | (simp [upd, put, t7]; rfl))⟩
    · rintro ts m3 ⟨H, t1, t2, t7⟩
      repeat' (first | exact tf0 ‹_› | exact tf1 ‹_› | exact False.elim ‹_› | (with_reducible refine Al.intro ?_; intro pb hpb; (try simp only [hupd_none'] at hpb); (repeat rcases hpb with ⟨⟨hpx, hpy⟩, hpb⟩)) | with_reducible refine need ?_ | ((with_reducible first | refine frk0 ?_ ?_ | refine frk1 ?_ ?_ | refine frk2 ?_ ?_ | refine frk3 ?_ ?_ | refine frk4 ?_ ?_ | refine frk5 ?_ ?_ | refine frk6 ?_ ?_ | refine frk7 ?_ ?_ | refine frk8 ?_ ?_ | refine frk9 ?_ ?_) <;> intro h <;> try (exfalso; omega)) | with_reducible refine quiet_and ?_ ?_ | with_reducible refine awp_drawnA mixed (by decide +kernel) ?_ | ((fail_if_success with_reducible refine stp ?_); simp -implicitDefEqProofs only [go_sem, Nat.reduceEqDiff, Nat.reduceAdd, Nat.reduceLT, Nat.reduceMul, Nat.reduceSub, Nat.reduceLeDiff, ↓reduceIte, reduceCtorEq, ↓String.reduceEq, String.reduceNe, Int.reduceToNat, Int.reduceLT, Int.reduceLE, Int.reduceGT, Int.reduceGE, Int.reduceEq, Int.reduceNe, Int.reduceBEq, Int.reduceBNe, Int.reduceAdd, Int.reduceSub, Int.reduceMul, Int.reduceNeg,  *]))
      refine rpass_spec G C2 (by have := HC2.out.2.2.1; omega) n 9000 _ m3 (.inl H.out) _ (fun a ok hpass => ?_)
      have HPass := Hid.mk hpass
      clear hpass
      repeat' (first | exact tf0 ‹_› | exact tf1 ‹_› | exact False.elim ‹_› | (with_reducible refine Al.intro ?_; intro pb hpb; (try simp only [hupd_none'] at hpb); (repeat rcases hpb with ⟨⟨hpx, hpy⟩, hpb⟩)) | with_reducible refine need ?_ | ((with_reducible first | refine frk0 ?_ ?_ | refine frk1 ?_ ?_ | refine frk2 ?_ ?_ | refine frk3 ?_ ?_ | refine frk4 ?_ ?_ | refine frk5 ?_ ?_ | refine frk6 ?_ ?_ | refine frk7 ?_ ?_ | refine frk8 ?_ ?_ | refine frk9 ?_ ?_) <;> intro h <;> try (exfalso; omega)) | with_reducible refine quiet_and ?_ ?_ | with_reducible refine awp_drawnA mixed (by decide +kernel) ?_ | ((fail_if_success with_reducible refine stp ?_); simp -implicitDefEqProofs only [go_sem, Nat.reduceEqDiff, Nat.reduceAdd, Nat.reduceLT, Nat.reduceMul, Nat.reduceSub, Nat.reduceLeDiff, ↓reduceIte, reduceCtorEq, ↓String.reduceEq, String.reduceNe, Int.reduceToNat, Int.reduceLT, Int.reduceLE, Int.reduceGT, Int.reduceGE, Int.reduceEq, Int.reduceNe, Int.reduceBEq, Int.reduceBNe, Int.reduceAdd, Int.reduceSub, Int.reduceMul, Int.reduceNeg,  *]))
      refine cjobs_spec G C2 ⟨HC2.out.2.2.1, HC2.out.2.2.2⟩ c HL.out.2.1 HL.out.2.2 _ m3 H.out _ (fun T vj m4 hT hTl hsj _ _ => ?_)
      have HT := Hid.mk (And.intro hT (And.intro hTl hsj))
      have hchk : checkF (T.map (jobT C2)) n = 0 := by
        unfold checkF
        rw [if_neg (by simpa using ⟨by omega, by omega⟩), if_neg (by rw [List.length_map]; omega), if_neg]
        intro h
        obtain ⟨j, hj, hr⟩ := List.any_eq_true.1 h
        obtain ⟨x, hx, rfl⟩ := List.mem_map.1 hj
        rw [jobT_right hT (fun s hs => (HC2.out.2.2.2 s hs).1) x hx] at hr
        cases hr
      have HChk := Hid.mk hchk
      clear hT hTl hsj hchk
      repeat' (first | exact tf0 ‹_› | exact tf1 ‹_› | exact False.elim ‹_› | (with_reducible refine Al.intro ?_; intro pb hpb; (try simp only [hupd_none'] at hpb); (repeat rcases hpb with ⟨⟨hpx, hpy⟩, hpb⟩)) | with_reducible refine need ?_ | ((with_reducible first | refine frk0 ?_ ?_ | refine frk1 ?_ ?_ | refine frk2 ?_ ?_ | refine frk3 ?_ ?_ | refine frk4 ?_ ?_ | refine frk5 ?_ ?_ | refine frk6 ?_ ?_ | refine frk7 ?_ ?_ | refine frk8 ?_ ?_ | refine frk9 ?_ ?_) <;> intro h <;> try (exfalso; omega)) | with_reducible refine quiet_and ?_ ?_ | with_reducible refine awp_drawnA mixed (by decide +kernel) ?_ | ((fail_if_success with_reducible refine stp ?_); simp -implicitDefEqProofs only [go_sem, Nat.reduceEqDiff, Nat.reduceAdd, Nat.reduceLT, Nat.reduceMul, Nat.reduceSub, Nat.reduceLeDiff, ↓reduceIte, reduceCtorEq, ↓String.reduceEq, String.reduceNe, Int.reduceToNat, Int.reduceLT, Int.reduceLE, Int.reduceGT, Int.reduceGE, Int.reduceEq, Int.reduceNe, Int.reduceBEq, Int.reduceBNe, Int.reduceAdd, Int.reduceSub, Int.reduceMul, Int.reduceNeg,  *]))
      refine late_spec G (T.map (jobT C2)) n vj m4 (.inl HT.out.2.2) _ (fun h => absurd HChk.out h) (fun _ S v3 m5 hse hs3 _ _ => ?_)
      have hlate : ok = true → latesOf S = [] := by
        intro hok
        rcases HPass.out with ⟨-, -, h⟩ | ⟨hr, -, ⟨-, -, hp⟩ | ⟨-, h, -⟩⟩
        · rw [hok] at h; cases h
        · unfold latesOf
          rw [List.filter_eq_nil_iff.2 (fun x hx => by rw [meets HT.out.1 HT.out.2.1 (by omega) hr hp hse x hx]; simp)]; rfl
        · rw [hok] at h; cases h
      have HLt := Hid.mk hlate
      have HS3 := Hid.mk hs3
      clear hlate hs3 hse
      repeat' (first | exact tf0 ‹_› | exact tf1 ‹_› | exact False.elim ‹_› | (with_reducible refine Al.intro ?_; intro pb hpb; (try simp only [hupd_none'] at hpb); (repeat rcases hpb with ⟨⟨hpx, hpy⟩, hpb⟩)) | with_reducible refine need ?_ | ((with_reducible first | refine frk0 ?_ ?_ | refine frk1 ?_ ?_ | refine frk2 ?_ ?_ | refine frk3 ?_ ?_ | refine frk4 ?_ ?_ | refine frk5 ?_ ?_ | refine frk6 ?_ ?_ | refine frk7 ?_ ?_ | refine frk8 ?_ ?_ | refine frk9 ?_ ?_) <;> intro h <;> try (exfalso; omega)) | with_reducible refine quiet_and ?_ ?_ | with_reducible refine awp_drawnA mixed (by decide +kernel) ?_ | ((fail_if_success with_reducible refine stp ?_); simp -implicitDefEqProofs only [go_sem, Nat.reduceEqDiff, Nat.reduceAdd, Nat.reduceLT, Nat.reduceMul, Nat.reduceSub, Nat.reduceLeDiff, ↓reduceIte, reduceCtorEq, ↓String.reduceEq, String.reduceNe, Int.reduceToNat, Int.reduceLT, Int.reduceLE, Int.reduceGT, Int.reduceGE, Int.reduceEq, Int.reduceNe, Int.reduceBEq, Int.reduceBNe, Int.reduceAdd, Int.reduceSub, Int.reduceMul, Int.reduceNeg,  *]))
      refine CallWP.to (live_spec G _) ?_
      cases ok with
      | false =>
        repeat' (first | exact tf0 ‹_› | exact tf1 ‹_› | exact False.elim ‹_› | (with_reducible refine Al.intro ?_; intro pb hpb; (try simp only [hupd_none'] at hpb); (repeat rcases hpb with ⟨⟨hpx, hpy⟩, hpb⟩)) | with_reducible refine need ?_ | ((with_reducible first | refine frk0 ?_ ?_ | refine frk1 ?_ ?_ | refine frk2 ?_ ?_ | refine frk3 ?_ ?_ | refine frk4 ?_ ?_ | refine frk5 ?_ ?_ | refine frk6 ?_ ?_ | refine frk7 ?_ ?_ | refine frk8 ?_ ?_ | refine frk9 ?_ ?_) <;> intro h <;> try (exfalso; omega)) | with_reducible refine quiet_and ?_ ?_ | with_reducible refine awp_drawnA mixed (by decide +kernel) ?_ | ((fail_if_success with_reducible refine stp ?_); simp -implicitDefEqProofs only [go_sem, Nat.reduceEqDiff, Nat.reduceAdd, Nat.reduceLT, Nat.reduceMul, Nat.reduceSub, Nat.reduceLeDiff, ↓reduceIte, reduceCtorEq, ↓String.reduceEq, String.reduceNe, Int.reduceToNat, Int.reduceLT, Int.reduceLE, Int.reduceGT, Int.reduceGE, Int.reduceEq, Int.reduceNe, Int.reduceBEq, Int.reduceBNe, Int.reduceAdd, Int.reduceSub, Int.reduceMul, Int.reduceNeg,  *]))
        exact ⟨fun _ => none, (by intro x y h; cases h), rfl, rfl⟩
      | true =>
        have h3 : v3 = .nils ∨ ∃ b o c, v3 = .slice b o 0 c := by
          have h := HS3.out.slv
          rw [HLt.out rfl, show srtI [] = [] from (srtI_eq .nil (.refl _)).symm] at h
          rcases h with ⟨h, -⟩ | ⟨b, o, c, h⟩
          · exact .inl h
          · exact .inr ⟨b, o, c, h⟩
        clear HS3
        rcases h3 with rfl | ⟨b3, o3, c3, rfl⟩
        all_goals (
          repeat' (first | exact tf0 ‹_› | exact tf1 ‹_› | exact False.elim ‹_› | (with_reducible refine Al.intro ?_; intro pb hpb; (try simp only [hupd_none'] at hpb); (repeat rcases hpb with ⟨⟨hpx, hpy⟩, hpb⟩)) | with_reducible refine need ?_ | ((with_reducible first | refine frk0 ?_ ?_ | refine frk1 ?_ ?_ | refine frk2 ?_ ?_ | refine frk3 ?_ ?_ | refine frk4 ?_ ?_ | refine frk5 ?_ ?_ | refine frk6 ?_ ?_ | refine frk7 ?_ ?_ | refine frk8 ?_ ?_ | refine frk9 ?_ ?_) <;> intro h <;> try (exfalso; omega)) | with_reducible refine quiet_and ?_ ?_ | with_reducible refine awp_drawnA mixed (by decide +kernel) ?_ | ((fail_if_success with_reducible refine stp ?_); simp -implicitDefEqProofs only [go_sem, Nat.reduceEqDiff, Nat.reduceAdd, Nat.reduceLT, Nat.reduceMul, Nat.reduceSub, Nat.reduceLeDiff, ↓reduceIte, reduceCtorEq, ↓String.reduceEq, String.reduceNe, Int.reduceToNat, Int.reduceLT, Int.reduceLE, Int.reduceGT, Int.reduceGE, Int.reduceEq, Int.reduceNe, Int.reduceBEq, Int.reduceBNe, Int.reduceAdd, Int.reduceSub, Int.reduceMul, Int.reduceNeg,  *]))
          exact ⟨fun _ => none, (by intro x y h; cases h), rfl, rfl⟩)
end Go.Proofs.Ytmifapnmlhchlaa
