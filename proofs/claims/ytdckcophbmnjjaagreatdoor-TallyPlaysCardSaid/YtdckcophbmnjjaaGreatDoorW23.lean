/- The document's rows: those that are counted. -/
import Derived.Test.YtdckcophbmnjjaaGreatDoorW22
set_option linter.all false
namespace Go.Proofs.YtdckcophbmnjjaaGreatDoor
open Go Go.Proofs.YtdckcophbmnjjaaGreatDoor.Ab
open Go.Proofs (Tryz.prog)
set_option maxRecDepth 100000
/-- One more that counts. -/
def addR (r : RowT) (f late : Int) : RowT :=
  (r.1 + 1, (if f = 0 then r.2.1.1 + 1 else r.2.1.1, if f = 1 then r.2.1.2.1 + 1 else r.2.1.2.1, if f = 2 then r.2.1.2.2.1 + 1 else r.2.1.2.2.1, if f = 3 then r.2.1.2.2.2.1 + 1 else r.2.1.2.2.2.1, if f = 4 then r.2.1.2.2.2.2.1 + 1 else r.2.1.2.2.2.2.1, if f = 5 then r.2.1.2.2.2.2.2 + 1 else r.2.1.2.2.2.2.2),
    if f = 1 then (if r.2.2.2.2 then imx r.2.2.1 late else late) else r.2.2.1, if f = 1 then (if r.2.2.2.2 then imn r.2.2.2.1 late else late) else r.2.2.2.1, r.2.2.2.2 || decide (f = 1))
theorem row_add (p : Ntd → Bool) (M : List Ntd) (x : Ntd) : rowOf p (M ++ [x]) = if p x then addR (rowOf p M) x.2.2.1 (x.2.2.2 - x.2.1.2.2.1) else rowOf p M := by
  unfold rowOf
  simp only [cnt_append, cnt_one, lates_append, lates_one]
  by_cases hp : p x = true
  · have hf : ∀ f, fateP p f x = decide (x.2.2.1 = f) := fun f => by unfold fateP; rw [hp]; rfl
    rw [if_pos hp]
    simp only [hp, hf, if_true, true_and, decide_eq_true_eq]
    by_cases h1 : x.2.2.1 = 1
    · rw [show (if x.fate = 1 then [x.at' - x.job.2.2.1] else []) = [x.2.2.2 - x.2.1.2.2.1] from if_pos h1]
      rw [mxo_perm List.perm_append_comm, mno_perm List.perm_append_comm]
      unfold addR
      cases hl : latesP p M with
      | nil => simp [mxo, mno, h1]
      | cons a t => simp [mxo, mno, h1]
    · rw [show (if x.fate = 1 then [x.at' - x.job.2.2.1] else []) = [] from if_neg h1, List.append_nil]
      unfold addR
      simp only [h1, if_false, decide_false, Bool.or_false]
      simp only [Prod.mk.injEq, and_true, true_and]
      refine ⟨?_, ?_, ?_, ?_, ?_, ?_⟩ <;> (try split) <;> omega
  · have hf : ∀ f, fateP p f x = false := fun f => by unfold fateP; simp only [Bool.not_eq_true] at hp; rw [hp]; rfl
    simp only [Bool.not_eq_true] at hp
    simp [hp, hf]
/-- Which are counted: those of a stream; all, if it is below 0. -/
def pSt (st : Int) : Ntd → Bool := if st < 0 then pAll else pId st
/-- When what became of frames did. -/
def GoodA (L : List Ntd) : Prop := ∀ x ∈ L, 0 ≤ x.2.2.2 ∧ x.2.2.2 ≤ 2251799813685248
def rcel10 (id : Int) (r : RowT) : List AVal := [.int .i64 id, .int .i64 r.1, .int .i64 r.2.1.1, .int .i64 r.2.1.2.1, .int .i64 r.2.1.2.2.1, .int .i64 r.2.1.2.2.2.1, .int .i64 r.2.1.2.2.2.2.1, .int .i64 r.2.1.2.2.2.2.2, .int .i64 r.2.2.1, .int .i64 r.2.2.2.1]
set_option maxHeartbeats 8000000 in
theorem rtrow_spec (G : Nat → AVal) (R : Rtb) (C : List Stm) (L : List Ntd) (hL : L.length ≤ 100000) (hg : GoodL C L) (ha : GoodA L) (st : Int) (m : Heap) (hr : RRep R C L m) :
    CallWP Tryz.prog G 59 [.ptr R.p 0, .int .i64 st] m fun w m' => w = rowVal st (rowOf (pSt st) L) ∧ m' = m := by
  obtain ⟨p, vs, vl⟩ := R
  obtain ⟨n, hn⟩ : ∃ n, n = L.length := ⟨_, rfl⟩
  have H0 := Hid.mk (And.intro hn (And.intro hg ha))
  have ktb := hr.tab
  simp only at ktb
  have frt : ∀ c, m c = none → (p = c) = False := fun c h => by rw [eq_iff_iff, iff_false]; exact seenB ktb h
  obtain ⟨b, pre, post, N, cap, hw⟩ := nt_ways hr.lst hn
  simp only at hw
  have lL : n ≤ 100000 := by omega
  clear hr hn hL hg ha
  rcases hw with ⟨hv, hz⟩ | ⟨hv, hb⟩
  all_goals (
    subst hv
    refine callWP_body Tryz.func59 rfl (N := 79) rfl (rs := [.cell 4 56]) rfl en_59 (of_decide_eq_true rfl) ?_
    repeat' (first | exact tf0 ‹_› | exact tf1 ‹_› | exact False.elim ‹_› | (with_reducible refine Al.intro ?_; intro pb hpb; (try simp only [hupd_none'] at hpb); (repeat rcases hpb with ⟨⟨hpx, hpy⟩, hpb⟩)) | with_reducible refine need ?_ | ((with_reducible first | apply frk0 | apply frk1 | apply frk2 | apply frk3 | apply frk4 | apply frk5 | apply frk6 | apply frk7 | apply frk8 | apply frk9) <;> intro h <;> try (exfalso; omega)) | with_reducible refine quiet_and ?_ ?_ | with_reducible refine awp_drawnA mixed (by decide +kernel) ?_ | ((fail_if_success with_reducible refine stp ?_); simp -implicitDefEqProofs only [go_sem, Nat.reduceEqDiff, Nat.reduceAdd, Nat.reduceLT, Nat.reduceMul, Nat.reduceSub, Nat.reduceLeDiff, ↓reduceIte, reduceCtorEq, ↓String.reduceEq, String.reduceNe, Int.reduceToNat, Int.reduceLT, Int.reduceLE, Int.reduceGT, Int.reduceGE, Int.reduceEq, Int.reduceNe, Int.reduceBEq, Int.reduceBNe, Int.reduceAdd, Int.reduceSub, Int.reduceMul, Int.reduceNeg,  *]))
    rename_i q4 e4
    obtain ⟨q5, e5⟩ : ∃ q, q = pb := ⟨_, rfl⟩
    subst e5
    obtain ⟨M, hM⟩ : ∃ M, hupd m q4 (.cells [.int .i64 0, .int .i64 0, .int .i64 0, .int .i64 0, .int .i64 0, .int .i64 0, .int .i64 0, .int .i64 0, .int .i64 0, .int .i64 0] 10) = M := ⟨_, rfl⟩
    have sM : Sub m M := by rw [← hM]; exact (Sub.refl _).fresh e4
    have k4 : M q4 = some (.cells [.int .i64 0, .int .i64 0, .int .i64 0, .int .i64 0, .int .i64 0, .int .i64 0, .int .i64 0, .int .i64 0, .int .i64 0, .int .i64 0] 10) := by rw [← hM, hupd_at, if_pos rfl]
    have k5 : M q5 = none := by rw [← hM, hupd_ne hpx]; exact hpb
    have kp := sM _ _ ktb
    try (have kb := sM _ _ hb)
    rw [hM]
    have HM := Hid.mk (And.intro sM (And.intro k5 (And.intro e4 hpb)))
    have n5p : (q5 = p) = False := by rw [eq_iff_iff, iff_false]; exact fun e => by rw [e, ktb] at hpb; cases hpb
    have np5 : (p = q5) = False := by rw [eq_iff_iff, iff_false]; exact fun e => by rw [← e, ktb] at hpb; cases hpb
    have frp : ∀ c, M c = none → (p = c) = False := fun c h => by rw [eq_iff_iff, iff_false]; exact seenB kp h
    try (have n5b : (q5 = b) = False := by rw [eq_iff_iff, iff_false]; exact fun e => by rw [e, hb] at hpb; cases hpb)
    try (have nb5 : (b = q5) = False := by rw [eq_iff_iff, iff_false]; exact fun e => by rw [← e, hb] at hpb; cases hpb)
    try (have frb : ∀ c, M c = none → (b = c) = False := fun c h => by rw [eq_iff_iff, iff_false]; exact seenB kb h)
    clear hM sM k5 e4 hpb frt ktb
    try clear hb
    refine awp_loopP 0 (fun ts m' => ts 4 = .ptr q4 0 ∧ ts 5 = .ptr q5 0 ∧ m' = hupd M q5 (.cells (rcel10 st (rowOf (pSt st) L)) 10))
      (fun k ts m' => ∃ i : Nat, Hid (k = n - i ∧ i ≤ n) ∧ ts 0 = .ptr p 0 ∧ ts 1 = .int .i64 st ∧ ts 4 = .ptr q4 0 ∧ ts 5 = .ptr q5 0 ∧ ts 6 = .bool (rowOf (pSt st) (L.take i)).2.2.2.2 ∧ ts 7 = .int .i64 (i : Nat) ∧ m' = hupd M q5 (.cells (rcel10 st (rowOf (pSt st) (L.take i))) 10)) n
      ⟨0, .mk ⟨rfl, Nat.zero_le _⟩, ttt, ttt, ttt, ttt, ttt, ttt, rfl⟩ ?_ ?_
    · rintro k ts m2 ⟨i, H, t0, t1, t4, t5, t6, t7, hm2⟩
      subst m2
      by_cases hi : i < n
      · have lt : (i : Int) < (n : Int) := by omega
        try (exfalso; omega)
        all_goals (
          have hiC : i < L.length := by have := H0.out.1; omega
          obtain ⟨x, hx⟩ : ∃ x, L.getD i default = x := ⟨_, rfl⟩
          have g1 := nt_at L pre post i hiC x hx
          have l1 := nt_len L pre post i hiC
          have w1 : IntKind.i64.wrap ((i : Int) + 1) = ((i + 1 : Nat) : Int) := by rw [wrap_i64 (by omega) (by omega)]; omega
          have hCt : L.take (i + 1) = L.take i ++ [x] := by rw [← hx, List.take_add_one]; simp [List.getD_eq_getElem?_getD, hiC]
          have hxm : x ∈ L := by rw [← hx, getD_getN hiC]; exact List.getElem_mem hiC
          have hgx := H0.out.2.1 x hxm
          have hax := H0.out.2.2 x hxm
          have hsm := row_small (pSt st) (L.take i) (by rw [List.length_take]; omega)
          have hsl : (L.take i).length ≤ 100000 := by rw [List.length_take]; omega
          have hra := row_add (pSt st) (L.take i) x
          rw [← hCt] at hra
          obtain ⟨r, hre⟩ : ∃ r, rowOf (pSt st) (L.take i) = r := ⟨_, rfl⟩
          rw [hre] at hra hsm t6 ⊢
          obtain ⟨tk, ⟨f0, f1, f2, f3, f4, f5⟩, wo, be, so⟩ := r
          obtain ⟨xt, ⟨j0, j1, j2, j3⟩, xf, xa⟩ := x
          obtain ⟨hs0, hs1, hs2, hs3, hs4, hs5, hs6⟩ := hsm
          simp only at hgx hax hs0 hs1 hs2 hs3 hs4 hs5 hs6 hra t6
          have wl : IntKind.i64.wrap (xa - j2) = xa - j2 := wrap_i64 (by omega) (by omega)
          have v0 : IntKind.i64.wrap (tk + 1) = tk + 1 := wrap_i64 (by omega) (by omega)
          have v1 : IntKind.i64.wrap (f0 + 1) = f0 + 1 := wrap_i64 (by omega) (by omega)
          have v2 : IntKind.i64.wrap (f1 + 1) = f1 + 1 := wrap_i64 (by omega) (by omega)
          have v3 : IntKind.i64.wrap (f2 + 1) = f2 + 1 := wrap_i64 (by omega) (by omega)
          have v4 : IntKind.i64.wrap (f3 + 1) = f3 + 1 := wrap_i64 (by omega) (by omega)
          have v5 : IntKind.i64.wrap (f4 + 1) = f4 + 1 := wrap_i64 (by omega) (by omega)
          have v6 : IntKind.i64.wrap (f5 + 1) = f5 + 1 := wrap_i64 (by omega) (by omega)
          have hf : xf = 0 ∨ xf = 1 ∨ xf = 2 ∨ xf = 3 ∨ xf = 4 ∨ xf = 5 := by omega
          have hpx2 : pSt st (xt, (j0, j1, j2, j3), xf, xa) = if st < 0 then true else decide (j0 = st) := by
            unfold pSt pAll pId; split <;> rfl
          rw [hpx2] at hra
          have HRA := Hid.mk hra
          obtain ⟨lt8, hlt8⟩ : ∃ z, xa - j2 = z := ⟨_, rfl⟩
          have HLT := Hid.mk hlt8
          rw [hlt8] at wl HRA
          simp only [rcel10]
          clear hx hCt hiC hxm hgx hax hs0 hs1 hs2 hs3 hs4 hs5 hs6 hra hpx2 hre hsl hlt8
          have fin : Hid (∀ (b1 : Bool) (r' : RowT), ((st < 0 ∨ j0 = st) ∧ r' = addR (tk, (f0, f1, f2, f3, f4, f5), wo, be, so) xf lt8) ∨ (¬ (st < 0 ∨ j0 = st) ∧ r' = (tk, (f0, f1, f2, f3, f4, f5), wo, be, so)) → rowOf (pSt st) (L.take (i + 1)) = r') := .mk (fun _ r' h => by
            rw [HRA.out]
            rcases h with ⟨h, rfl⟩ | ⟨h, rfl⟩
            · rw [if_pos]
              by_cases h2 : st < 0
              · simp [h2]
              · simp [h2, h.resolve_left h2]
            · rw [if_neg]
              simp only [not_or] at h
              simp [h.1, h.2])
          clear HRA
          by_cases hc : st < 0 ∨ j0 = st
          · have HF := Hid.mk (fin.out true _ (.inl ⟨hc, rfl⟩))
            have hcc : (st < 0 ∧ ¬ st ≥ 0) ∨ (st ≥ 0 ∧ st = j0) := by omega
            clear hc fin
            rcases hf with rfl | rfl | rfl | rfl | rfl | rfl
            · rcases hcc with ⟨h2, h3⟩ | ⟨h3, rfl⟩
              all_goals (
                repeat' (first | exact tf0 ‹_› | exact tf1 ‹_› | exact False.elim ‹_› | (with_reducible refine Al.intro ?_; intro pb hpb; (try simp only [hupd_none'] at hpb); (repeat rcases hpb with ⟨⟨hpx, hpy⟩, hpb⟩)) | with_reducible refine need ?_ | ((with_reducible first | apply frk0 | apply frk1 | apply frk2 | apply frk3 | apply frk4 | apply frk5 | apply frk6 | apply frk7 | apply frk8 | apply frk9) <;> intro h <;> try (exfalso; omega)) | with_reducible refine quiet_and ?_ ?_ | with_reducible refine awp_drawnA mixed (by decide +kernel) ?_ | ((fail_if_success with_reducible refine stp ?_); simp -implicitDefEqProofs only [go_sem, Nat.reduceEqDiff, Nat.reduceAdd, Nat.reduceLT, Nat.reduceMul, Nat.reduceSub, Nat.reduceLeDiff, ↓reduceIte, reduceCtorEq, ↓String.reduceEq, String.reduceNe, Int.reduceToNat, Int.reduceLT, Int.reduceLE, Int.reduceGT, Int.reduceGE, Int.reduceEq, Int.reduceNe, Int.reduceBEq, Int.reduceBNe, Int.reduceAdd, Int.reduceSub, Int.reduceMul, Int.reduceNeg,  encNt, *]))
                refine Again.intro ⟨n - (i + 1), by have := H.out; omega, hupd M q5 (.cells (rcel10 st (rowOf (pSt st) (L.take (i + 1)))) 10), ?_, i + 1, .mk ⟨rfl, by omega⟩, (by first | (simp only [upd, put, Nat.reduceEqDiff, ↓reduceIte, t0]; done) | (simp [upd, put, t0]; done) | rfl | (simp [upd, put, t0]; rfl)), (by first | (simp only [upd, put, Nat.reduceEqDiff, ↓reduceIte, t1]; done) | (simp [upd, put, t1]; done) | rfl | (simp [upd, put, t1]; rfl)), (by first | (simp only [upd, put, Nat.reduceEqDiff, ↓reduceIte, t4]; done) | (simp [upd, put, t4]; done) | rfl | (simp [upd, put, t4]; rfl)), (by first | (simp only [upd, put, Nat.reduceEqDiff, ↓reduceIte, t5]; done) | (simp [upd, put, t5]; done) | rfl | (simp [upd, put, t5]; rfl)), ?_, ttt, rfl⟩ <;> rw [HF.out]
                · exact (Sub.refl _).fresh (by rw [hupd_ne hpx]; exact hpb)
                · exact (by first | (simp only [upd, put, Nat.reduceEqDiff, ↓reduceIte, t6, addR]; done) | (simp [upd, put, t6, addR]; done) | rfl | (simp [upd, put, t6, addR]; rfl)))
            · cases so
              · rcases hcc with ⟨h2, h3⟩ | ⟨h3, rfl⟩
                all_goals (
                  have hlt8 := HLT.out
                  repeat' (first | exact tf0 ‹_› | exact tf1 ‹_› | exact False.elim ‹_› | (with_reducible refine Al.intro ?_; intro pb hpb; (try simp only [hupd_none'] at hpb); (repeat rcases hpb with ⟨⟨hpx, hpy⟩, hpb⟩)) | with_reducible refine need ?_ | ((with_reducible first | apply frk0 | apply frk1 | apply frk2 | apply frk3 | apply frk4 | apply frk5 | apply frk6 | apply frk7 | apply frk8 | apply frk9) <;> intro h <;> try (exfalso; omega)) | with_reducible refine quiet_and ?_ ?_ | with_reducible refine awp_drawnA mixed (by decide +kernel) ?_ | ((fail_if_success with_reducible refine stp ?_); simp -implicitDefEqProofs only [go_sem, Nat.reduceEqDiff, Nat.reduceAdd, Nat.reduceLT, Nat.reduceMul, Nat.reduceSub, Nat.reduceLeDiff, ↓reduceIte, reduceCtorEq, ↓String.reduceEq, String.reduceNe, Int.reduceToNat, Int.reduceLT, Int.reduceLE, Int.reduceGT, Int.reduceGE, Int.reduceEq, Int.reduceNe, Int.reduceBEq, Int.reduceBNe, Int.reduceAdd, Int.reduceSub, Int.reduceMul, Int.reduceNeg,  encNt, *]))
                  refine Again.intro ⟨n - (i + 1), by have := H.out; omega, hupd M q5 (.cells (rcel10 st (rowOf (pSt st) (L.take (i + 1)))) 10), ?_, i + 1, .mk ⟨rfl, by omega⟩, (by first | (simp only [upd, put, Nat.reduceEqDiff, ↓reduceIte, t0]; done) | (simp [upd, put, t0]; done) | rfl | (simp [upd, put, t0]; rfl)), (by first | (simp only [upd, put, Nat.reduceEqDiff, ↓reduceIte, t1]; done) | (simp [upd, put, t1]; done) | rfl | (simp [upd, put, t1]; rfl)), (by first | (simp only [upd, put, Nat.reduceEqDiff, ↓reduceIte, t4]; done) | (simp [upd, put, t4]; done) | rfl | (simp [upd, put, t4]; rfl)), (by first | (simp only [upd, put, Nat.reduceEqDiff, ↓reduceIte, t5]; done) | (simp [upd, put, t5]; done) | rfl | (simp [upd, put, t5]; rfl)), ?_, ttt, rfl⟩ <;> rw [HF.out]
                  · exact (Sub.refl _).fresh (by rw [hupd_ne hpx]; exact hpb)
                  · exact (by first | (simp only [upd, put, Nat.reduceEqDiff, ↓reduceIte, t6, addR]; done) | (simp [upd, put, t6, addR]; done) | rfl | (simp [upd, put, t6, addR]; rfl)))
              · by_cases h4 : lt8 > wo
                · by_cases h5 : lt8 < be
                  · have HI := Hid.mk (And.intro (show imx wo lt8 = lt8 by unfold imx; rw [if_pos h4]) (show imn be lt8 = lt8 by unfold imn; rw [if_pos h5]))
                    rcases hcc with ⟨h2, h3⟩ | ⟨h3, rfl⟩
                    all_goals (
                      have hlt8 := HLT.out
                      repeat' (first | exact tf0 ‹_› | exact tf1 ‹_› | exact False.elim ‹_› | (with_reducible refine Al.intro ?_; intro pb hpb; (try simp only [hupd_none'] at hpb); (repeat rcases hpb with ⟨⟨hpx, hpy⟩, hpb⟩)) | with_reducible refine need ?_ | ((with_reducible first | apply frk0 | apply frk1 | apply frk2 | apply frk3 | apply frk4 | apply frk5 | apply frk6 | apply frk7 | apply frk8 | apply frk9) <;> intro h <;> try (exfalso; omega)) | with_reducible refine quiet_and ?_ ?_ | with_reducible refine awp_drawnA mixed (by decide +kernel) ?_ | ((fail_if_success with_reducible refine stp ?_); simp -implicitDefEqProofs only [go_sem, Nat.reduceEqDiff, Nat.reduceAdd, Nat.reduceLT, Nat.reduceMul, Nat.reduceSub, Nat.reduceLeDiff, ↓reduceIte, reduceCtorEq, ↓String.reduceEq, String.reduceNe, Int.reduceToNat, Int.reduceLT, Int.reduceLE, Int.reduceGT, Int.reduceGE, Int.reduceEq, Int.reduceNe, Int.reduceBEq, Int.reduceBNe, Int.reduceAdd, Int.reduceSub, Int.reduceMul, Int.reduceNeg,  encNt, *]))
                      refine Again.intro ⟨n - (i + 1), by have := H.out; omega, hupd M q5 (.cells (rcel10 st (rowOf (pSt st) (L.take (i + 1)))) 10), ?_, i + 1, .mk ⟨rfl, by omega⟩, (by first | (simp only [upd, put, Nat.reduceEqDiff, ↓reduceIte, t0]; done) | (simp [upd, put, t0]; done) | rfl | (simp [upd, put, t0]; rfl)), (by first | (simp only [upd, put, Nat.reduceEqDiff, ↓reduceIte, t1]; done) | (simp [upd, put, t1]; done) | rfl | (simp [upd, put, t1]; rfl)), (by first | (simp only [upd, put, Nat.reduceEqDiff, ↓reduceIte, t4]; done) | (simp [upd, put, t4]; done) | rfl | (simp [upd, put, t4]; rfl)), (by first | (simp only [upd, put, Nat.reduceEqDiff, ↓reduceIte, t5]; done) | (simp [upd, put, t5]; done) | rfl | (simp [upd, put, t5]; rfl)), ?_, ttt, rfl⟩ <;> rw [HF.out]
                      · try simp only [addR, if_true, HI.out.1, HI.out.2]
                        exact (Sub.refl _).fresh (by rw [hupd_ne hpx]; exact hpb)
                      · exact (by first | (simp only [upd, put, Nat.reduceEqDiff, ↓reduceIte, t6, addR]; done) | (simp [upd, put, t6, addR]; done) | rfl | (simp [upd, put, t6, addR]; rfl)))
                  · have HI := Hid.mk (And.intro (show imx wo lt8 = lt8 by unfold imx; rw [if_pos h4]) (show imn be lt8 = be by unfold imn; rw [if_neg h5]))
                    rcases hcc with ⟨h2, h3⟩ | ⟨h3, rfl⟩
                    all_goals (
                      have hlt8 := HLT.out
                      repeat' (first | exact tf0 ‹_› | exact tf1 ‹_› | exact False.elim ‹_› | (with_reducible refine Al.intro ?_; intro pb hpb; (try simp only [hupd_none'] at hpb); (repeat rcases hpb with ⟨⟨hpx, hpy⟩, hpb⟩)) | with_reducible refine need ?_ | ((with_reducible first | apply frk0 | apply frk1 | apply frk2 | apply frk3 | apply frk4 | apply frk5 | apply frk6 | apply frk7 | apply frk8 | apply frk9) <;> intro h <;> try (exfalso; omega)) | with_reducible refine quiet_and ?_ ?_ | with_reducible refine awp_drawnA mixed (by decide +kernel) ?_ | ((fail_if_success with_reducible refine stp ?_); simp -implicitDefEqProofs only [go_sem, Nat.reduceEqDiff, Nat.reduceAdd, Nat.reduceLT, Nat.reduceMul, Nat.reduceSub, Nat.reduceLeDiff, ↓reduceIte, reduceCtorEq, ↓String.reduceEq, String.reduceNe, Int.reduceToNat, Int.reduceLT, Int.reduceLE, Int.reduceGT, Int.reduceGE, Int.reduceEq, Int.reduceNe, Int.reduceBEq, Int.reduceBNe, Int.reduceAdd, Int.reduceSub, Int.reduceMul, Int.reduceNeg,  encNt, *]))
                      refine Again.intro ⟨n - (i + 1), by have := H.out; omega, hupd M q5 (.cells (rcel10 st (rowOf (pSt st) (L.take (i + 1)))) 10), ?_, i + 1, .mk ⟨rfl, by omega⟩, (by first | (simp only [upd, put, Nat.reduceEqDiff, ↓reduceIte, t0]; done) | (simp [upd, put, t0]; done) | rfl | (simp [upd, put, t0]; rfl)), (by first | (simp only [upd, put, Nat.reduceEqDiff, ↓reduceIte, t1]; done) | (simp [upd, put, t1]; done) | rfl | (simp [upd, put, t1]; rfl)), (by first | (simp only [upd, put, Nat.reduceEqDiff, ↓reduceIte, t4]; done) | (simp [upd, put, t4]; done) | rfl | (simp [upd, put, t4]; rfl)), (by first | (simp only [upd, put, Nat.reduceEqDiff, ↓reduceIte, t5]; done) | (simp [upd, put, t5]; done) | rfl | (simp [upd, put, t5]; rfl)), ?_, ttt, rfl⟩ <;> rw [HF.out]
                      · try simp only [addR, if_true, HI.out.1, HI.out.2]
                        exact (Sub.refl _).fresh (by rw [hupd_ne hpx]; exact hpb)
                      · exact (by first | (simp only [upd, put, Nat.reduceEqDiff, ↓reduceIte, t6, addR]; done) | (simp [upd, put, t6, addR]; done) | rfl | (simp [upd, put, t6, addR]; rfl)))
                · by_cases h5 : lt8 < be
                  · have HI := Hid.mk (And.intro (show imx wo lt8 = wo by unfold imx; rw [if_neg h4]) (show imn be lt8 = lt8 by unfold imn; rw [if_pos h5]))
                    rcases hcc with ⟨h2, h3⟩ | ⟨h3, rfl⟩
                    all_goals (
                      have hlt8 := HLT.out
                      repeat' (first | exact tf0 ‹_› | exact tf1 ‹_› | exact False.elim ‹_› | (with_reducible refine Al.intro ?_; intro pb hpb; (try simp only [hupd_none'] at hpb); (repeat rcases hpb with ⟨⟨hpx, hpy⟩, hpb⟩)) | with_reducible refine need ?_ | ((with_reducible first | apply frk0 | apply frk1 | apply frk2 | apply frk3 | apply frk4 | apply frk5 | apply frk6 | apply frk7 | apply frk8 | apply frk9) <;> intro h <;> try (exfalso; omega)) | with_reducible refine quiet_and ?_ ?_ | with_reducible refine awp_drawnA mixed (by decide +kernel) ?_ | ((fail_if_success with_reducible refine stp ?_); simp -implicitDefEqProofs only [go_sem, Nat.reduceEqDiff, Nat.reduceAdd, Nat.reduceLT, Nat.reduceMul, Nat.reduceSub, Nat.reduceLeDiff, ↓reduceIte, reduceCtorEq, ↓String.reduceEq, String.reduceNe, Int.reduceToNat, Int.reduceLT, Int.reduceLE, Int.reduceGT, Int.reduceGE, Int.reduceEq, Int.reduceNe, Int.reduceBEq, Int.reduceBNe, Int.reduceAdd, Int.reduceSub, Int.reduceMul, Int.reduceNeg,  encNt, *]))
                      refine Again.intro ⟨n - (i + 1), by have := H.out; omega, hupd M q5 (.cells (rcel10 st (rowOf (pSt st) (L.take (i + 1)))) 10), ?_, i + 1, .mk ⟨rfl, by omega⟩, (by first | (simp only [upd, put, Nat.reduceEqDiff, ↓reduceIte, t0]; done) | (simp [upd, put, t0]; done) | rfl | (simp [upd, put, t0]; rfl)), (by first | (simp only [upd, put, Nat.reduceEqDiff, ↓reduceIte, t1]; done) | (simp [upd, put, t1]; done) | rfl | (simp [upd, put, t1]; rfl)), (by first | (simp only [upd, put, Nat.reduceEqDiff, ↓reduceIte, t4]; done) | (simp [upd, put, t4]; done) | rfl | (simp [upd, put, t4]; rfl)), (by first | (simp only [upd, put, Nat.reduceEqDiff, ↓reduceIte, t5]; done) | (simp [upd, put, t5]; done) | rfl | (simp [upd, put, t5]; rfl)), ?_, ttt, rfl⟩ <;> rw [HF.out]
                      · try simp only [addR, if_true, HI.out.1, HI.out.2]
                        exact (Sub.refl _).fresh (by rw [hupd_ne hpx]; exact hpb)
                      · exact (by first | (simp only [upd, put, Nat.reduceEqDiff, ↓reduceIte, t6, addR]; done) | (simp [upd, put, t6, addR]; done) | rfl | (simp [upd, put, t6, addR]; rfl)))
                  · have HI := Hid.mk (And.intro (show imx wo lt8 = wo by unfold imx; rw [if_neg h4]) (show imn be lt8 = be by unfold imn; rw [if_neg h5]))
                    rcases hcc with ⟨h2, h3⟩ | ⟨h3, rfl⟩
                    all_goals (
                      have hlt8 := HLT.out
                      repeat' (first | exact tf0 ‹_› | exact tf1 ‹_› | exact False.elim ‹_› | (with_reducible refine Al.intro ?_; intro pb hpb; (try simp only [hupd_none'] at hpb); (repeat rcases hpb with ⟨⟨hpx, hpy⟩, hpb⟩)) | with_reducible refine need ?_ | ((with_reducible first | apply frk0 | apply frk1 | apply frk2 | apply frk3 | apply frk4 | apply frk5 | apply frk6 | apply frk7 | apply frk8 | apply frk9) <;> intro h <;> try (exfalso; omega)) | with_reducible refine quiet_and ?_ ?_ | with_reducible refine awp_drawnA mixed (by decide +kernel) ?_ | ((fail_if_success with_reducible refine stp ?_); simp -implicitDefEqProofs only [go_sem, Nat.reduceEqDiff, Nat.reduceAdd, Nat.reduceLT, Nat.reduceMul, Nat.reduceSub, Nat.reduceLeDiff, ↓reduceIte, reduceCtorEq, ↓String.reduceEq, String.reduceNe, Int.reduceToNat, Int.reduceLT, Int.reduceLE, Int.reduceGT, Int.reduceGE, Int.reduceEq, Int.reduceNe, Int.reduceBEq, Int.reduceBNe, Int.reduceAdd, Int.reduceSub, Int.reduceMul, Int.reduceNeg,  encNt, *]))
                      refine Again.intro ⟨n - (i + 1), by have := H.out; omega, hupd M q5 (.cells (rcel10 st (rowOf (pSt st) (L.take (i + 1)))) 10), ?_, i + 1, .mk ⟨rfl, by omega⟩, (by first | (simp only [upd, put, Nat.reduceEqDiff, ↓reduceIte, t0]; done) | (simp [upd, put, t0]; done) | rfl | (simp [upd, put, t0]; rfl)), (by first | (simp only [upd, put, Nat.reduceEqDiff, ↓reduceIte, t1]; done) | (simp [upd, put, t1]; done) | rfl | (simp [upd, put, t1]; rfl)), (by first | (simp only [upd, put, Nat.reduceEqDiff, ↓reduceIte, t4]; done) | (simp [upd, put, t4]; done) | rfl | (simp [upd, put, t4]; rfl)), (by first | (simp only [upd, put, Nat.reduceEqDiff, ↓reduceIte, t5]; done) | (simp [upd, put, t5]; done) | rfl | (simp [upd, put, t5]; rfl)), ?_, ttt, rfl⟩ <;> rw [HF.out]
                      · try simp only [addR, if_true, HI.out.1, HI.out.2]
                        exact (Sub.refl _).fresh (by rw [hupd_ne hpx]; exact hpb)
                      · exact (by first | (simp only [upd, put, Nat.reduceEqDiff, ↓reduceIte, t6, addR]; done) | (simp [upd, put, t6, addR]; done) | rfl | (simp [upd, put, t6, addR]; rfl)))
            · rcases hcc with ⟨h2, h3⟩ | ⟨h3, rfl⟩
              all_goals (
                repeat' (first | exact tf0 ‹_› | exact tf1 ‹_› | exact False.elim ‹_› | (with_reducible refine Al.intro ?_; intro pb hpb; (try simp only [hupd_none'] at hpb); (repeat rcases hpb with ⟨⟨hpx, hpy⟩, hpb⟩)) | with_reducible refine need ?_ | ((with_reducible first | apply frk0 | apply frk1 | apply frk2 | apply frk3 | apply frk4 | apply frk5 | apply frk6 | apply frk7 | apply frk8 | apply frk9) <;> intro h <;> try (exfalso; omega)) | with_reducible refine quiet_and ?_ ?_ | with_reducible refine awp_drawnA mixed (by decide +kernel) ?_ | ((fail_if_success with_reducible refine stp ?_); simp -implicitDefEqProofs only [go_sem, Nat.reduceEqDiff, Nat.reduceAdd, Nat.reduceLT, Nat.reduceMul, Nat.reduceSub, Nat.reduceLeDiff, ↓reduceIte, reduceCtorEq, ↓String.reduceEq, String.reduceNe, Int.reduceToNat, Int.reduceLT, Int.reduceLE, Int.reduceGT, Int.reduceGE, Int.reduceEq, Int.reduceNe, Int.reduceBEq, Int.reduceBNe, Int.reduceAdd, Int.reduceSub, Int.reduceMul, Int.reduceNeg,  encNt, *]))
                refine Again.intro ⟨n - (i + 1), by have := H.out; omega, hupd M q5 (.cells (rcel10 st (rowOf (pSt st) (L.take (i + 1)))) 10), ?_, i + 1, .mk ⟨rfl, by omega⟩, (by first | (simp only [upd, put, Nat.reduceEqDiff, ↓reduceIte, t0]; done) | (simp [upd, put, t0]; done) | rfl | (simp [upd, put, t0]; rfl)), (by first | (simp only [upd, put, Nat.reduceEqDiff, ↓reduceIte, t1]; done) | (simp [upd, put, t1]; done) | rfl | (simp [upd, put, t1]; rfl)), (by first | (simp only [upd, put, Nat.reduceEqDiff, ↓reduceIte, t4]; done) | (simp [upd, put, t4]; done) | rfl | (simp [upd, put, t4]; rfl)), (by first | (simp only [upd, put, Nat.reduceEqDiff, ↓reduceIte, t5]; done) | (simp [upd, put, t5]; done) | rfl | (simp [upd, put, t5]; rfl)), ?_, ttt, rfl⟩ <;> rw [HF.out]
                · exact (Sub.refl _).fresh (by rw [hupd_ne hpx]; exact hpb)
                · exact (by first | (simp only [upd, put, Nat.reduceEqDiff, ↓reduceIte, t6, addR]; done) | (simp [upd, put, t6, addR]; done) | rfl | (simp [upd, put, t6, addR]; rfl)))
            · rcases hcc with ⟨h2, h3⟩ | ⟨h3, rfl⟩
              all_goals (
                repeat' (first | exact tf0 ‹_› | exact tf1 ‹_› | exact False.elim ‹_› | (with_reducible refine Al.intro ?_; intro pb hpb; (try simp only [hupd_none'] at hpb); (repeat rcases hpb with ⟨⟨hpx, hpy⟩, hpb⟩)) | with_reducible refine need ?_ | ((with_reducible first | apply frk0 | apply frk1 | apply frk2 | apply frk3 | apply frk4 | apply frk5 | apply frk6 | apply frk7 | apply frk8 | apply frk9) <;> intro h <;> try (exfalso; omega)) | with_reducible refine quiet_and ?_ ?_ | with_reducible refine awp_drawnA mixed (by decide +kernel) ?_ | ((fail_if_success with_reducible refine stp ?_); simp -implicitDefEqProofs only [go_sem, Nat.reduceEqDiff, Nat.reduceAdd, Nat.reduceLT, Nat.reduceMul, Nat.reduceSub, Nat.reduceLeDiff, ↓reduceIte, reduceCtorEq, ↓String.reduceEq, String.reduceNe, Int.reduceToNat, Int.reduceLT, Int.reduceLE, Int.reduceGT, Int.reduceGE, Int.reduceEq, Int.reduceNe, Int.reduceBEq, Int.reduceBNe, Int.reduceAdd, Int.reduceSub, Int.reduceMul, Int.reduceNeg,  encNt, *]))
                refine Again.intro ⟨n - (i + 1), by have := H.out; omega, hupd M q5 (.cells (rcel10 st (rowOf (pSt st) (L.take (i + 1)))) 10), ?_, i + 1, .mk ⟨rfl, by omega⟩, (by first | (simp only [upd, put, Nat.reduceEqDiff, ↓reduceIte, t0]; done) | (simp [upd, put, t0]; done) | rfl | (simp [upd, put, t0]; rfl)), (by first | (simp only [upd, put, Nat.reduceEqDiff, ↓reduceIte, t1]; done) | (simp [upd, put, t1]; done) | rfl | (simp [upd, put, t1]; rfl)), (by first | (simp only [upd, put, Nat.reduceEqDiff, ↓reduceIte, t4]; done) | (simp [upd, put, t4]; done) | rfl | (simp [upd, put, t4]; rfl)), (by first | (simp only [upd, put, Nat.reduceEqDiff, ↓reduceIte, t5]; done) | (simp [upd, put, t5]; done) | rfl | (simp [upd, put, t5]; rfl)), ?_, ttt, rfl⟩ <;> rw [HF.out]
                · exact (Sub.refl _).fresh (by rw [hupd_ne hpx]; exact hpb)
                · exact (by first | (simp only [upd, put, Nat.reduceEqDiff, ↓reduceIte, t6, addR]; done) | (simp [upd, put, t6, addR]; done) | rfl | (simp [upd, put, t6, addR]; rfl)))
            · rcases hcc with ⟨h2, h3⟩ | ⟨h3, rfl⟩
              all_goals (
                repeat' (first | exact tf0 ‹_› | exact tf1 ‹_› | exact False.elim ‹_› | (with_reducible refine Al.intro ?_; intro pb hpb; (try simp only [hupd_none'] at hpb); (repeat rcases hpb with ⟨⟨hpx, hpy⟩, hpb⟩)) | with_reducible refine need ?_ | ((with_reducible first | apply frk0 | apply frk1 | apply frk2 | apply frk3 | apply frk4 | apply frk5 | apply frk6 | apply frk7 | apply frk8 | apply frk9) <;> intro h <;> try (exfalso; omega)) | with_reducible refine quiet_and ?_ ?_ | with_reducible refine awp_drawnA mixed (by decide +kernel) ?_ | ((fail_if_success with_reducible refine stp ?_); simp -implicitDefEqProofs only [go_sem, Nat.reduceEqDiff, Nat.reduceAdd, Nat.reduceLT, Nat.reduceMul, Nat.reduceSub, Nat.reduceLeDiff, ↓reduceIte, reduceCtorEq, ↓String.reduceEq, String.reduceNe, Int.reduceToNat, Int.reduceLT, Int.reduceLE, Int.reduceGT, Int.reduceGE, Int.reduceEq, Int.reduceNe, Int.reduceBEq, Int.reduceBNe, Int.reduceAdd, Int.reduceSub, Int.reduceMul, Int.reduceNeg,  encNt, *]))
                refine Again.intro ⟨n - (i + 1), by have := H.out; omega, hupd M q5 (.cells (rcel10 st (rowOf (pSt st) (L.take (i + 1)))) 10), ?_, i + 1, .mk ⟨rfl, by omega⟩, (by first | (simp only [upd, put, Nat.reduceEqDiff, ↓reduceIte, t0]; done) | (simp [upd, put, t0]; done) | rfl | (simp [upd, put, t0]; rfl)), (by first | (simp only [upd, put, Nat.reduceEqDiff, ↓reduceIte, t1]; done) | (simp [upd, put, t1]; done) | rfl | (simp [upd, put, t1]; rfl)), (by first | (simp only [upd, put, Nat.reduceEqDiff, ↓reduceIte, t4]; done) | (simp [upd, put, t4]; done) | rfl | (simp [upd, put, t4]; rfl)), (by first | (simp only [upd, put, Nat.reduceEqDiff, ↓reduceIte, t5]; done) | (simp [upd, put, t5]; done) | rfl | (simp [upd, put, t5]; rfl)), ?_, ttt, rfl⟩ <;> rw [HF.out]
                · exact (Sub.refl _).fresh (by rw [hupd_ne hpx]; exact hpb)
                · exact (by first | (simp only [upd, put, Nat.reduceEqDiff, ↓reduceIte, t6, addR]; done) | (simp [upd, put, t6, addR]; done) | rfl | (simp [upd, put, t6, addR]; rfl)))
            · rcases hcc with ⟨h2, h3⟩ | ⟨h3, rfl⟩
              all_goals (
                repeat' (first | exact tf0 ‹_› | exact tf1 ‹_› | exact False.elim ‹_› | (with_reducible refine Al.intro ?_; intro pb hpb; (try simp only [hupd_none'] at hpb); (repeat rcases hpb with ⟨⟨hpx, hpy⟩, hpb⟩)) | with_reducible refine need ?_ | ((with_reducible first | apply frk0 | apply frk1 | apply frk2 | apply frk3 | apply frk4 | apply frk5 | apply frk6 | apply frk7 | apply frk8 | apply frk9) <;> intro h <;> try (exfalso; omega)) | with_reducible refine quiet_and ?_ ?_ | with_reducible refine awp_drawnA mixed (by decide +kernel) ?_ | ((fail_if_success with_reducible refine stp ?_); simp -implicitDefEqProofs only [go_sem, Nat.reduceEqDiff, Nat.reduceAdd, Nat.reduceLT, Nat.reduceMul, Nat.reduceSub, Nat.reduceLeDiff, ↓reduceIte, reduceCtorEq, ↓String.reduceEq, String.reduceNe, Int.reduceToNat, Int.reduceLT, Int.reduceLE, Int.reduceGT, Int.reduceGE, Int.reduceEq, Int.reduceNe, Int.reduceBEq, Int.reduceBNe, Int.reduceAdd, Int.reduceSub, Int.reduceMul, Int.reduceNeg,  encNt, *]))
                refine Again.intro ⟨n - (i + 1), by have := H.out; omega, hupd M q5 (.cells (rcel10 st (rowOf (pSt st) (L.take (i + 1)))) 10), ?_, i + 1, .mk ⟨rfl, by omega⟩, (by first | (simp only [upd, put, Nat.reduceEqDiff, ↓reduceIte, t0]; done) | (simp [upd, put, t0]; done) | rfl | (simp [upd, put, t0]; rfl)), (by first | (simp only [upd, put, Nat.reduceEqDiff, ↓reduceIte, t1]; done) | (simp [upd, put, t1]; done) | rfl | (simp [upd, put, t1]; rfl)), (by first | (simp only [upd, put, Nat.reduceEqDiff, ↓reduceIte, t4]; done) | (simp [upd, put, t4]; done) | rfl | (simp [upd, put, t4]; rfl)), (by first | (simp only [upd, put, Nat.reduceEqDiff, ↓reduceIte, t5]; done) | (simp [upd, put, t5]; done) | rfl | (simp [upd, put, t5]; rfl)), ?_, ttt, rfl⟩ <;> rw [HF.out]
                · exact (Sub.refl _).fresh (by rw [hupd_ne hpx]; exact hpb)
                · exact (by first | (simp only [upd, put, Nat.reduceEqDiff, ↓reduceIte, t6, addR]; done) | (simp [upd, put, t6, addR]; done) | rfl | (simp [upd, put, t6, addR]; rfl)))
          · have HF := Hid.mk (fin.out true _ (.inr ⟨hc, rfl⟩))
            have h3 : st ≥ 0 := by omega
            have h4 : (j0 != st) = true := by simp only [bne_iff_ne]; omega
            clear hc fin
            repeat' (first | exact tf0 ‹_› | exact tf1 ‹_› | exact False.elim ‹_› | (with_reducible refine Al.intro ?_; intro pb hpb; (try simp only [hupd_none'] at hpb); (repeat rcases hpb with ⟨⟨hpx, hpy⟩, hpb⟩)) | with_reducible refine need ?_ | ((with_reducible first | apply frk0 | apply frk1 | apply frk2 | apply frk3 | apply frk4 | apply frk5 | apply frk6 | apply frk7 | apply frk8 | apply frk9) <;> intro h <;> try (exfalso; omega)) | with_reducible refine quiet_and ?_ ?_ | with_reducible refine awp_drawnA mixed (by decide +kernel) ?_ | ((fail_if_success with_reducible refine stp ?_); simp -implicitDefEqProofs only [go_sem, Nat.reduceEqDiff, Nat.reduceAdd, Nat.reduceLT, Nat.reduceMul, Nat.reduceSub, Nat.reduceLeDiff, ↓reduceIte, reduceCtorEq, ↓String.reduceEq, String.reduceNe, Int.reduceToNat, Int.reduceLT, Int.reduceLE, Int.reduceGT, Int.reduceGE, Int.reduceEq, Int.reduceNe, Int.reduceBEq, Int.reduceBNe, Int.reduceAdd, Int.reduceSub, Int.reduceMul, Int.reduceNeg,  encNt, *]))
            refine Again.intro ⟨n - (i + 1), by have := H.out; omega, hupd M q5 (.cells (rcel10 st (rowOf (pSt st) (L.take (i + 1)))) 10), ?_, i + 1, .mk ⟨rfl, by omega⟩, (by first | (simp only [upd, put, Nat.reduceEqDiff, ↓reduceIte, t0]; done) | (simp [upd, put, t0]; done) | rfl | (simp [upd, put, t0]; rfl)), (by first | (simp only [upd, put, Nat.reduceEqDiff, ↓reduceIte, t1]; done) | (simp [upd, put, t1]; done) | rfl | (simp [upd, put, t1]; rfl)), (by first | (simp only [upd, put, Nat.reduceEqDiff, ↓reduceIte, t4]; done) | (simp [upd, put, t4]; done) | rfl | (simp [upd, put, t4]; rfl)), (by first | (simp only [upd, put, Nat.reduceEqDiff, ↓reduceIte, t5]; done) | (simp [upd, put, t5]; done) | rfl | (simp [upd, put, t5]; rfl)), ?_, ttt, rfl⟩ <;> rw [HF.out]
            · exact (Sub.refl _).fresh (by rw [hupd_ne hpx]; exact hpb)
            · exact (by first | (simp only [upd, put, Nat.reduceEqDiff, ↓reduceIte, t6, addR]; done) | (simp [upd, put, t6, addR]; done) | rfl | (simp [upd, put, t6, addR]; rfl)))
      · have lt : ¬ (i : Int) < (n : Int) := by omega
        have HT := Hid.mk (show L.take i = L from List.take_of_length_le (by have := H0.out; omega))
        repeat' (first | exact tf0 ‹_› | exact tf1 ‹_› | exact False.elim ‹_› | (with_reducible refine Al.intro ?_; intro pb hpb; (try simp only [hupd_none'] at hpb); (repeat rcases hpb with ⟨⟨hpx, hpy⟩, hpb⟩)) | with_reducible refine need ?_ | ((with_reducible first | apply frk0 | apply frk1 | apply frk2 | apply frk3 | apply frk4 | apply frk5 | apply frk6 | apply frk7 | apply frk8 | apply frk9) <;> intro h <;> try (exfalso; omega)) | with_reducible refine quiet_and ?_ ?_ | with_reducible refine awp_drawnA mixed (by decide +kernel) ?_ | ((fail_if_success with_reducible refine stp ?_); simp -implicitDefEqProofs only [go_sem, Nat.reduceEqDiff, Nat.reduceAdd, Nat.reduceLT, Nat.reduceMul, Nat.reduceSub, Nat.reduceLeDiff, ↓reduceIte, reduceCtorEq, ↓String.reduceEq, String.reduceNe, Int.reduceToNat, Int.reduceLT, Int.reduceLE, Int.reduceGT, Int.reduceGE, Int.reduceEq, Int.reduceNe, Int.reduceBEq, Int.reduceBNe, Int.reduceAdd, Int.reduceSub, Int.reduceMul, Int.reduceNeg,  *]))
        exact Again.intro ⟨(by first | (simp only [upd, put, Nat.reduceEqDiff, ↓reduceIte, t4]; done) | (simp [upd, put, t4]; done) | rfl | (simp [upd, put, t4]; rfl)), (by first | (simp only [upd, put, Nat.reduceEqDiff, ↓reduceIte, t5]; done) | (simp [upd, put, t5]; done) | rfl | (simp [upd, put, t5]; rfl)), by rw [HT.out]⟩
    · rintro ts m2 ⟨t4, t5, hm2⟩
      subst m2
      obtain ⟨r, hre⟩ : ∃ r, rowOf (pSt st) L = r := ⟨_, rfl⟩
      rw [hre]
      have HRE := Hid.mk hre
      obtain ⟨tk, ⟨f0, f1, f2, f3, f4, f5⟩, wo, be, so⟩ := r
      simp only [rcel10]
      repeat' (first | exact tf0 ‹_› | exact tf1 ‹_› | exact False.elim ‹_› | (with_reducible refine Al.intro ?_; intro pb hpb; (try simp only [hupd_none'] at hpb); (repeat rcases hpb with ⟨⟨hpx, hpy⟩, hpb⟩)) | with_reducible refine need ?_ | ((with_reducible first | apply frk0 | apply frk1 | apply frk2 | apply frk3 | apply frk4 | apply frk5 | apply frk6 | apply frk7 | apply frk8 | apply frk9) <;> intro h <;> try (exfalso; omega)) | with_reducible refine quiet_and ?_ ?_ | with_reducible refine awp_drawnA mixed (by decide +kernel) ?_ | ((fail_if_success with_reducible refine stp ?_); simp -implicitDefEqProofs only [go_sem, Nat.reduceEqDiff, Nat.reduceAdd, Nat.reduceLT, Nat.reduceMul, Nat.reduceSub, Nat.reduceLeDiff, ↓reduceIte, reduceCtorEq, ↓String.reduceEq, String.reduceNe, Int.reduceToNat, Int.reduceLT, Int.reduceLE, Int.reduceGT, Int.reduceGE, Int.reduceEq, Int.reduceNe, Int.reduceBEq, Int.reduceBNe, Int.reduceAdd, Int.reduceSub, Int.reduceMul, Int.reduceNeg,  *]))
      refine ⟨m, fun c y hc => ?_, rfl, rfl⟩
      rw [hupd_ne (seenB hc HM.out.2.2.1), hupd_ne (seenB hc HM.out.2.2.2)]
      exact HM.out.1 _ _ hc)
end Go.Proofs.YtdckcophbmnjjaaGreatDoor
