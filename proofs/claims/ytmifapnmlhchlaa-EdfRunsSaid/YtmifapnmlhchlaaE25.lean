/- A few jobs that can be, from any. -/
import Derived.Test.YtmifapnmlhchlaaE24
set_option linter.all false
namespace Go.Proofs.Ytmifapnmlhchlaa
open Go Go.Proofs.Ytmifapnmlhchlaa.Ab
open Go.Proofs (Try.prog)
set_option maxRecDepth 100000
def jobF (j : Jb) : Jb := (partF j.1 20, partF j.2.1 3000, partF j.2.1 3000 + partF j.2.2.1 2000, partF j.2.2.2 200 + 1)
def jobsF (l : List Jb) : List Jb := (l.take 40).map jobF
theorem jobF_right (j : Jb) : rightJ (jobF j) = true := by
  rw [rightJ_iff]
  have h1 := partF_in (n := j.1) (b := 20) (by omega)
  have h2 := partF_in (n := j.2.1) (b := 3000) (by omega)
  have h3 := partF_in (n := j.2.2.1) (b := 2000) (by omega)
  have h4 := partF_in (n := j.2.2.2) (b := 200) (by omega)
  unfold jobF
  simp only
  omega
theorem jobsF_right (l : List Jb) (n : Int) (h1 : 1 ≤ n) (h2 : n ≤ 1073741824) : checkF (jobsF l) n = 0 := by
  unfold checkF
  rw [if_neg (by omega), if_neg (by unfold jobsF; rw [List.length_map, List.length_take]; omega), if_neg]
  intro h
  obtain ⟨j, hj, hr⟩ := List.any_eq_true.1 h
  unfold jobsF at hj
  obtain ⟨x, -, rfl⟩ := List.mem_map.1 hj
  rw [jobF_right] at hr
  cases hr
theorem jobs_step (l : List Jb) (i : Nat) (h : i < l.length) : (l.take (i + 1)).map jobF = (l.take i).map jobF ++ [jobF (l.getD i default)] := by
  have e : l.take (i + 1) = l.take i ++ [l.getD i default] := by rw [List.take_add_one]; simp [List.getD_eq_getElem?_getD, h]
  rw [e, List.map_append]; rfl
set_option maxHeartbeats 1000000 in
theorem jobs_spec (G : Nat → AVal) (l : List Jb) (hll : l.length < 9223372036854775808) (m : Heap) (K : AVal → Heap → Prop)
    (hK : ∀ (v : AVal) (m' : Heap), SlM encJc 4 (jobsF l) v m' → Sub m m' → (∀ b, bOf v = some b → m b = none) → K v m') : CallWP Try.prog G 20 [.list 4 (l.map encJ)] m K := by
  have HK := Hid.mk hK
  clear hK
  have HLL := Hid.mk hll
  clear hll
  refine callWP_body Try.func20 rfl (N := 45) rfl (rs := [.tmp 2]) rfl en_20 (of_decide_eq_true rfl) ?_
  repeat' (first | exact tf0 ‹_› | exact tf1 ‹_› | exact False.elim ‹_› | (with_reducible refine Al.intro ?_; intro pb hpb; (try simp only [hupd_none'] at hpb); (repeat rcases hpb with ⟨⟨hpx, hpy⟩, hpb⟩)) | with_reducible refine need ?_ | ((with_reducible first | refine frk0 ?_ ?_ | refine frk1 ?_ ?_ | refine frk2 ?_ ?_ | refine frk3 ?_ ?_ | refine frk4 ?_ ?_ | refine frk5 ?_ ?_ | refine frk6 ?_ ?_ | refine frk7 ?_ ?_ | refine frk8 ?_ ?_ | refine frk9 ?_ ?_) <;> intro h <;> try (exfalso; omega)) | with_reducible refine quiet_and ?_ ?_ | with_reducible refine awp_drawnA mixed (by decide +kernel) ?_ | ((fail_if_success with_reducible refine stp ?_); simp -implicitDefEqProofs only [go_sem, Nat.reduceEqDiff, Nat.reduceAdd, Nat.reduceLT, Nat.reduceMul, Nat.reduceSub, Nat.reduceLeDiff, ↓reduceIte, reduceCtorEq, ↓String.reduceEq, String.reduceNe, Int.reduceToNat, Int.reduceLT, Int.reduceLE, Int.reduceGT, Int.reduceGE, Int.reduceEq, Int.reduceNe, Int.reduceBEq, Int.reduceBNe, Int.reduceAdd, Int.reduceSub, Int.reduceMul, Int.reduceNeg,  *]))
  refine awp_loopP 0 (fun ts m' => ∃ v : AVal, Hid (SlM encJc 4 (jobsF l) v m' ∧ Sub m m' ∧ ∀ x, bOf v = some x → m x = none) ∧ ts 3 = v)
    (fun k ts m' => ∃ (v : AVal) (i : Nat), Hid (k = 40 - i ∧ i ≤ 40 ∧ i ≤ l.length ∧ SlM encJc 4 ((l.take i).map jobF) v m' ∧ Sub m m' ∧ ∀ x, bOf v = some x → m x = none) ∧ ts 0 = .list 4 (l.map encJ) ∧ ts 3 = v ∧ ts 4 = .int .i64 (i : Nat)) 40
    ⟨.nils, 0, .mk ⟨rfl, Nat.zero_le _, Nat.zero_le _, .inl ⟨rfl, rfl⟩, Sub.refl _, by simp [bOf]⟩, ttt, ttt, ttt⟩ ?_ ?_
  · rintro k ts m1 ⟨v, i, H, t0, t3, t4⟩
    have ll : (l.map encJ).length = l.length := List.length_map _
    by_cases hi : i < l.length
    · have lt : (i : Int) < (l.length : Int) := by omega
      by_cases hi2 : i < 40
      · have lt2 : (i : Int) < 40 := by omega
        obtain ⟨x, hx⟩ : ∃ x, l.getD i default = x := ⟨_, rfl⟩
        have g1 := lst_at l i hi x hx
        have w1 : IntKind.i64.wrap ((i : Int) + 1) = ((i + 1 : Nat) : Int) := by rw [wrap_i64 (by omega) (by omega)]; omega
        have HX := Hid.mk hx
        clear hx
        repeat' (first | exact tf0 ‹_› | exact tf1 ‹_› | exact False.elim ‹_› | (with_reducible refine Al.intro ?_; intro pb hpb; (try simp only [hupd_none'] at hpb); (repeat rcases hpb with ⟨⟨hpx, hpy⟩, hpb⟩)) | with_reducible refine need ?_ | ((with_reducible first | refine frk0 ?_ ?_ | refine frk1 ?_ ?_ | refine frk2 ?_ ?_ | refine frk3 ?_ ?_ | refine frk4 ?_ ?_ | refine frk5 ?_ ?_ | refine frk6 ?_ ?_ | refine frk7 ?_ ?_ | refine frk8 ?_ ?_ | refine frk9 ?_ ?_) <;> intro h <;> try (exfalso; omega)) | with_reducible refine quiet_and ?_ ?_ | with_reducible refine awp_drawnA mixed (by decide +kernel) ?_ | ((fail_if_success with_reducible refine stp ?_); simp -implicitDefEqProofs only [go_sem, Nat.reduceEqDiff, Nat.reduceAdd, Nat.reduceLT, Nat.reduceMul, Nat.reduceSub, Nat.reduceLeDiff, ↓reduceIte, reduceCtorEq, ↓String.reduceEq, String.reduceNe, Int.reduceToNat, Int.reduceLT, Int.reduceLE, Int.reduceGT, Int.reduceGE, Int.reduceEq, Int.reduceNe, Int.reduceBEq, Int.reduceBNe, Int.reduceAdd, Int.reduceSub, Int.reduceMul, Int.reduceNeg,  *]))
        refine CallWP.to (part_spec G x.1 20 (by decide) _) ?_
        repeat' (first | exact tf0 ‹_› | exact tf1 ‹_› | exact False.elim ‹_› | (with_reducible refine Al.intro ?_; intro pb hpb; (try simp only [hupd_none'] at hpb); (repeat rcases hpb with ⟨⟨hpx, hpy⟩, hpb⟩)) | with_reducible refine need ?_ | ((with_reducible first | refine frk0 ?_ ?_ | refine frk1 ?_ ?_ | refine frk2 ?_ ?_ | refine frk3 ?_ ?_ | refine frk4 ?_ ?_ | refine frk5 ?_ ?_ | refine frk6 ?_ ?_ | refine frk7 ?_ ?_ | refine frk8 ?_ ?_ | refine frk9 ?_ ?_) <;> intro h <;> try (exfalso; omega)) | with_reducible refine quiet_and ?_ ?_ | with_reducible refine awp_drawnA mixed (by decide +kernel) ?_ | ((fail_if_success with_reducible refine stp ?_); simp -implicitDefEqProofs only [go_sem, Nat.reduceEqDiff, Nat.reduceAdd, Nat.reduceLT, Nat.reduceMul, Nat.reduceSub, Nat.reduceLeDiff, ↓reduceIte, reduceCtorEq, ↓String.reduceEq, String.reduceNe, Int.reduceToNat, Int.reduceLT, Int.reduceLE, Int.reduceGT, Int.reduceGE, Int.reduceEq, Int.reduceNe, Int.reduceBEq, Int.reduceBNe, Int.reduceAdd, Int.reduceSub, Int.reduceMul, Int.reduceNeg,  *]))
        refine CallWP.to (part_spec G x.2.1 3000 (by decide) _) ?_
        repeat' (first | exact tf0 ‹_› | exact tf1 ‹_› | exact False.elim ‹_› | (with_reducible refine Al.intro ?_; intro pb hpb; (try simp only [hupd_none'] at hpb); (repeat rcases hpb with ⟨⟨hpx, hpy⟩, hpb⟩)) | with_reducible refine need ?_ | ((with_reducible first | refine frk0 ?_ ?_ | refine frk1 ?_ ?_ | refine frk2 ?_ ?_ | refine frk3 ?_ ?_ | refine frk4 ?_ ?_ | refine frk5 ?_ ?_ | refine frk6 ?_ ?_ | refine frk7 ?_ ?_ | refine frk8 ?_ ?_ | refine frk9 ?_ ?_) <;> intro h <;> try (exfalso; omega)) | with_reducible refine quiet_and ?_ ?_ | with_reducible refine awp_drawnA mixed (by decide +kernel) ?_ | ((fail_if_success with_reducible refine stp ?_); simp -implicitDefEqProofs only [go_sem, Nat.reduceEqDiff, Nat.reduceAdd, Nat.reduceLT, Nat.reduceMul, Nat.reduceSub, Nat.reduceLeDiff, ↓reduceIte, reduceCtorEq, ↓String.reduceEq, String.reduceNe, Int.reduceToNat, Int.reduceLT, Int.reduceLE, Int.reduceGT, Int.reduceGE, Int.reduceEq, Int.reduceNe, Int.reduceBEq, Int.reduceBNe, Int.reduceAdd, Int.reduceSub, Int.reduceMul, Int.reduceNeg,  *]))
        obtain ⟨r, hr⟩ : ∃ r, r = partF x.2.1 3000 := ⟨_, rfl⟩
        obtain ⟨d, hd⟩ : ∃ d, d = partF x.2.2.1 2000 := ⟨_, rfl⟩
        obtain ⟨c, hc⟩ : ∃ c, c = partF x.2.2.2 200 := ⟨_, rfl⟩
        have r1 := partF_in x.2.1 3000 (by decide)
        have d1 := partF_in x.2.2.1 2000 (by decide)
        have c1 := partF_in x.2.2.2 200 (by decide)
        have w2 : IntKind.i64.wrap (r + d) = r + d := by rw [wrap_i64 (by omega) (by omega)]
        have w3 : IntKind.i64.wrap (c + 1) = c + 1 := by rw [wrap_i64 (by omega) (by omega)]
        have HD := Hid.mk (And.intro hr (And.intro hd hc))
        rw [← hr]
        clear hr hd hc r1 d1 c1
        refine awp_drawnE [(0, .q), (1, .q), (2, .q), (3, .q), (4, .k), (5, .q), (6, .q), (7, .e)] (fun i => match i with | 4 => .int .i64 d | _ => .undef) (fun _ => False) (fun _ _ => False) mixed (by decide +kernel) ?_
        repeat' (first | exact tf0 ‹_› | exact tf1 ‹_› | exact False.elim ‹_› | (with_reducible refine Al.intro ?_; intro pb hpb; (try simp only [hupd_none'] at hpb); (repeat rcases hpb with ⟨⟨hpx, hpy⟩, hpb⟩)) | with_reducible refine need ?_ | ((with_reducible first | refine frk0 ?_ ?_ | refine frk1 ?_ ?_ | refine frk2 ?_ ?_ | refine frk3 ?_ ?_ | refine frk4 ?_ ?_ | refine frk5 ?_ ?_ | refine frk6 ?_ ?_ | refine frk7 ?_ ?_ | refine frk8 ?_ ?_ | refine frk9 ?_ ?_) <;> intro h <;> try (exfalso; omega)) | with_reducible refine quiet_and ?_ ?_ | with_reducible refine awp_drawnA mixed (by decide +kernel) ?_ | ((fail_if_success with_reducible refine stp ?_); simp -implicitDefEqProofs only [go_sem, Nat.reduceEqDiff, Nat.reduceAdd, Nat.reduceLT, Nat.reduceMul, Nat.reduceSub, Nat.reduceLeDiff, ↓reduceIte, reduceCtorEq, ↓String.reduceEq, String.reduceNe, Int.reduceToNat, Int.reduceLT, Int.reduceLE, Int.reduceGT, Int.reduceGE, Int.reduceEq, Int.reduceNe, Int.reduceBEq, Int.reduceBNe, Int.reduceAdd, Int.reduceSub, Int.reduceMul, Int.reduceNeg,  *]))
        · exact fun m' _ => by rw [HD.out.2.1]; exact part_spec G x.2.2.1 2000 (by decide) m'
        refine CallWP.to (part_spec G x.2.2.2 200 (by decide) _) ?_
        rw [← HD.out.2.2]
        repeat' (first | exact tf0 ‹_› | exact tf1 ‹_› | exact False.elim ‹_› | (with_reducible refine Al.intro ?_; intro pb hpb; (try simp only [hupd_none'] at hpb); (repeat rcases hpb with ⟨⟨hpx, hpy⟩, hpb⟩)) | with_reducible refine need ?_ | ((with_reducible first | refine frk0 ?_ ?_ | refine frk1 ?_ ?_ | refine frk2 ?_ ?_ | refine frk3 ?_ ?_ | refine frk4 ?_ ?_ | refine frk5 ?_ ?_ | refine frk6 ?_ ?_ | refine frk7 ?_ ?_ | refine frk8 ?_ ?_ | refine frk9 ?_ ?_) <;> intro h <;> try (exfalso; omega)) | with_reducible refine quiet_and ?_ ?_ | with_reducible refine awp_drawnA mixed (by decide +kernel) ?_ | ((fail_if_success with_reducible refine stp ?_); simp -implicitDefEqProofs only [go_sem, Nat.reduceEqDiff, Nat.reduceAdd, Nat.reduceLT, Nat.reduceMul, Nat.reduceSub, Nat.reduceLeDiff, ↓reduceIte, reduceCtorEq, ↓String.reduceEq, String.reduceNe, Int.reduceToNat, Int.reduceLT, Int.reduceLE, Int.reduceGT, Int.reduceGE, Int.reduceEq, Int.reduceNe, Int.reduceBEq, Int.reduceBNe, Int.reduceAdd, Int.reduceSub, Int.reduceMul, Int.reduceNeg,  *]))
        rename Nat => q
        rename m1 q = none => hq
        refine app1 (enc := encJc) (sz := 4) (C := (l.take i).map jobF) (x := jobF x) Try.underlying22 tk_42 eb_42 zl_42 (by decide) (by rw [Try.underlying22]; rfl) (by unfold isInt; rw [Try.underlying22]) encJc_len rfl ⟨4, by rw [hupd_at, if_pos rfl]; obtain ⟨e1, e2, e3⟩ := HD.out; unfold jobF; rw [e1, e2, e3]⟩ ((H.out.2.2.2.1.fresh (by assumption)).fresh (by rw [hupd_ne (by assumption)]; exact hq)) (by rw [List.length_map, List.length_take]; omega) (fun v2 m2 h1 h2 => ?_)
        obtain ⟨k1, k2⟩ := h2.sub (mb := m) (subTrans H.out.2.2.2.2.1 (by exact (by (repeat refine Sub.fresh ?_ (by assumption)); exact Sub.refl _))) H.out.2.2.2.2.2
        have HN := Hid.mk (And.intro h1 (And.intro k1 k2))
        clear h1 h2 k1 k2
        repeat' (first | exact tf0 ‹_› | exact tf1 ‹_› | exact False.elim ‹_› | (with_reducible refine Al.intro ?_; intro pb hpb; (try simp only [hupd_none'] at hpb); (repeat rcases hpb with ⟨⟨hpx, hpy⟩, hpb⟩)) | with_reducible refine need ?_ | ((with_reducible first | refine frk0 ?_ ?_ | refine frk1 ?_ ?_ | refine frk2 ?_ ?_ | refine frk3 ?_ ?_ | refine frk4 ?_ ?_ | refine frk5 ?_ ?_ | refine frk6 ?_ ?_ | refine frk7 ?_ ?_ | refine frk8 ?_ ?_ | refine frk9 ?_ ?_) <;> intro h <;> try (exfalso; omega)) | with_reducible refine quiet_and ?_ ?_ | with_reducible refine awp_drawnA mixed (by decide +kernel) ?_ | ((fail_if_success with_reducible refine stp ?_); simp -implicitDefEqProofs only [go_sem, Nat.reduceEqDiff, Nat.reduceAdd, Nat.reduceLT, Nat.reduceMul, Nat.reduceSub, Nat.reduceLeDiff, ↓reduceIte, reduceCtorEq, ↓String.reduceEq, String.reduceNe, Int.reduceToNat, Int.reduceLT, Int.reduceLE, Int.reduceGT, Int.reduceGE, Int.reduceEq, Int.reduceNe, Int.reduceBEq, Int.reduceBNe, Int.reduceAdd, Int.reduceSub, Int.reduceMul, Int.reduceNeg,  anil, *]))
        exact Again.intro ⟨40 - (i + 1), by have := H.out; omega, _, Sub.refl _, v2, i + 1, .mk ⟨rfl, by omega, by omega, by rw [jobs_step _ _ hi, HX.out]; exact HN.out.1, HN.out.2.1, HN.out.2.2⟩, (by first | (simp only [upd, put, Nat.reduceEqDiff, ↓reduceIte, t0]; done) | (simp [upd, put, t0]; done) | rfl | (simp [upd, put, t0]; rfl)), ttt, ttt⟩
      · have lt2 : ¬ (i : Int) < 40 := by omega
        repeat' (first | exact tf0 ‹_› | exact tf1 ‹_› | exact False.elim ‹_› | (with_reducible refine Al.intro ?_; intro pb hpb; (try simp only [hupd_none'] at hpb); (repeat rcases hpb with ⟨⟨hpx, hpy⟩, hpb⟩)) | with_reducible refine need ?_ | ((with_reducible first | refine frk0 ?_ ?_ | refine frk1 ?_ ?_ | refine frk2 ?_ ?_ | refine frk3 ?_ ?_ | refine frk4 ?_ ?_ | refine frk5 ?_ ?_ | refine frk6 ?_ ?_ | refine frk7 ?_ ?_ | refine frk8 ?_ ?_ | refine frk9 ?_ ?_) <;> intro h <;> try (exfalso; omega)) | with_reducible refine quiet_and ?_ ?_ | with_reducible refine awp_drawnA mixed (by decide +kernel) ?_ | ((fail_if_success with_reducible refine stp ?_); simp -implicitDefEqProofs only [go_sem, Nat.reduceEqDiff, Nat.reduceAdd, Nat.reduceLT, Nat.reduceMul, Nat.reduceSub, Nat.reduceLeDiff, ↓reduceIte, reduceCtorEq, ↓String.reduceEq, String.reduceNe, Int.reduceToNat, Int.reduceLT, Int.reduceLE, Int.reduceGT, Int.reduceGE, Int.reduceEq, Int.reduceNe, Int.reduceBEq, Int.reduceBNe, Int.reduceAdd, Int.reduceSub, Int.reduceMul, Int.reduceNeg,  *]))
        exact Again.intro ⟨v, .mk ⟨by have h := H.out.2.2.2.1; unfold jobsF; rwa [show i = 40 by have := H.out; omega] at h, H.out.2.2.2.2⟩, (by first | (simp only [upd, put, Nat.reduceEqDiff, ↓reduceIte, t3]; done) | (simp [upd, put, t3]; done) | rfl | (simp [upd, put, t3]; rfl))⟩
    · have lt : ¬ (i : Int) < (l.length : Int) := by omega
      repeat' (first | exact tf0 ‹_› | exact tf1 ‹_› | exact False.elim ‹_› | (with_reducible refine Al.intro ?_; intro pb hpb; (try simp only [hupd_none'] at hpb); (repeat rcases hpb with ⟨⟨hpx, hpy⟩, hpb⟩)) | with_reducible refine need ?_ | ((with_reducible first | refine frk0 ?_ ?_ | refine frk1 ?_ ?_ | refine frk2 ?_ ?_ | refine frk3 ?_ ?_ | refine frk4 ?_ ?_ | refine frk5 ?_ ?_ | refine frk6 ?_ ?_ | refine frk7 ?_ ?_ | refine frk8 ?_ ?_ | refine frk9 ?_ ?_) <;> intro h <;> try (exfalso; omega)) | with_reducible refine quiet_and ?_ ?_ | with_reducible refine awp_drawnA mixed (by decide +kernel) ?_ | ((fail_if_success with_reducible refine stp ?_); simp -implicitDefEqProofs only [go_sem, Nat.reduceEqDiff, Nat.reduceAdd, Nat.reduceLT, Nat.reduceMul, Nat.reduceSub, Nat.reduceLeDiff, ↓reduceIte, reduceCtorEq, ↓String.reduceEq, String.reduceNe, Int.reduceToNat, Int.reduceLT, Int.reduceLE, Int.reduceGT, Int.reduceGE, Int.reduceEq, Int.reduceNe, Int.reduceBEq, Int.reduceBNe, Int.reduceAdd, Int.reduceSub, Int.reduceMul, Int.reduceNeg,  *]))
      exact Again.intro ⟨v, .mk ⟨by have h := H.out.2.2.2.1; unfold jobsF; rw [show i = l.length by have := H.out; omega, List.take_length] at h; rwa [List.take_of_length_le (by have := H.out; omega)], H.out.2.2.2.2⟩, (by first | (simp only [upd, put, Nat.reduceEqDiff, ↓reduceIte, t3]; done) | (simp [upd, put, t3]; done) | rfl | (simp [upd, put, t3]; rfl))⟩
  · rintro ts m1 ⟨v, H, t3⟩
    repeat' (first | exact tf0 ‹_› | exact tf1 ‹_› | exact False.elim ‹_› | (with_reducible refine Al.intro ?_; intro pb hpb; (try simp only [hupd_none'] at hpb); (repeat rcases hpb with ⟨⟨hpx, hpy⟩, hpb⟩)) | with_reducible refine need ?_ | ((with_reducible first | refine frk0 ?_ ?_ | refine frk1 ?_ ?_ | refine frk2 ?_ ?_ | refine frk3 ?_ ?_ | refine frk4 ?_ ?_ | refine frk5 ?_ ?_ | refine frk6 ?_ ?_ | refine frk7 ?_ ?_ | refine frk8 ?_ ?_ | refine frk9 ?_ ?_) <;> intro h <;> try (exfalso; omega)) | with_reducible refine quiet_and ?_ ?_ | with_reducible refine awp_drawnA mixed (by decide +kernel) ?_ | ((fail_if_success with_reducible refine stp ?_); simp -implicitDefEqProofs only [go_sem, Nat.reduceEqDiff, Nat.reduceAdd, Nat.reduceLT, Nat.reduceMul, Nat.reduceSub, Nat.reduceLeDiff, ↓reduceIte, reduceCtorEq, ↓String.reduceEq, String.reduceNe, Int.reduceToNat, Int.reduceLT, Int.reduceLE, Int.reduceGT, Int.reduceGE, Int.reduceEq, Int.reduceNe, Int.reduceBEq, Int.reduceBNe, Int.reduceAdd, Int.reduceSub, Int.reduceMul, Int.reduceNeg,  *]))
    refine ⟨_, Sub.refl _, ?_⟩
    (try rw [t3])
    exact HK.out _ _ H.out.1 H.out.2.1 H.out.2.2
end Go.Proofs.Ytmifapnmlhchlaa
