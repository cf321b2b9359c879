/- Streams: where one is, and whether all can be. -/
import Derived.Test.YtmifapnmlhchlaaX1
set_option linter.all false
namespace Go.Proofs.Ytmifapnmlhchlaa
open Go Go.Proofs.Ytmifapnmlhchlaa.Ab
open Go.Proofs (Try.prog)
set_option maxRecDepth 100000
/-- A row of streams that is read. -/
def RdS (C : List Stm) (v : AVal) (m : Heap) : Prop := SlM encSc 7 C v m ∨ v = .list 7 (C.map encS)
theorem RdS.into {C : List Stm} {v : AVal} {m m2 : Heap} (h : RdS C v m) (s : Sub m m2) : RdS C v m2 := h.imp (fun h => h.into s) id
/-- How a row lies: behind a place, or as it was handed in; pre and post are empty where it does not lie behind a place. -/
theorem RdS.ways {C : List Stm} {v : AVal} {m : Heap} {L : Nat} (h : RdS C v m) (hL : L = C.length) : ∃ b pre post N cap, (v = .nils ∧ L = 0) ∨ (v = .slice b pre.length L cap ∧ m b = some (.cells (pre ++ (C.flatMap encSc ++ post)) N)) ∨ v = .list 7 (C.map encS) := by
  rcases h with (⟨h1, h2⟩ | ⟨b, blk, hb, pre, post, N, cap, h1, rfl, -, -⟩) | h
  · exact ⟨0, [], [], 0, 0, .inl ⟨h1, by rw [hL, h2]; rfl⟩⟩
  · exact ⟨b, pre, post, N, cap, .inr (.inl ⟨by rw [hL]; exact h1, hb⟩)⟩
  · exact ⟨0, [], [], 0, 0, .inr (.inr h)⟩
theorem sm_cell (C : List Stm) (pre post : List AVal) (i : Nat) (hi : i < C.length) (x : Stm) (hx : C.getD i default = x) (k : Nat) (hk : k < 7) :
    (pre ++ (C.flatMap encSc ++ post)).getD (pre.length + i * 7 + k) .undef = (encSc x).getD k .undef := by
  have h := row_at encSc_len C pre post i hi
  rw [hx] at h
  generalize pre ++ (C.flatMap encSc ++ post) = L at h
  generalize pre.length + i * 7 = a at h
  rw [← h]
  simp [List.getD_eq_getElem?_getD, List.getElem?_take, hk]
theorem sm_at (C : List Stm) (pre post : List AVal) (i : Nat) (hi : i < C.length) (x : Stm) (hx : C.getD i default = x) : ((pre ++ (C.flatMap encSc ++ post)).drop (pre.length + i * 7)).take 7 = encSc x := by
  rw [row_at encSc_len C pre post i hi, hx]
theorem sm_len (C : List Stm) (pre post : List AVal) (i : Nat) (hi : i < C.length) : pre.length + i * 7 + 7 ≤ (pre ++ (C.flatMap encSc ++ post)).length := row_len encSc_len C pre post i hi
theorem sm_lst (C : List Stm) (i : Nat) (h : i < C.length) (x : Stm) (hx : C.getD i default = x) : (C.map encS).getD i .undef = .agg (encSc x) := by
  rw [← hx]; simp [List.getD_eq_getElem?_getD, h, encS]
/-- The place of a stream. -/
def findF (C : List Stm) (id : Int) : Int := match C.findIdx? fun s => decide (s.1 = id) with
  | some i => (i : Int)
  | none => -1
theorem findF_at {C : List Stm} {id : Int} {i : Nat} (hi : i < C.length) (h : (C.getD i default).1 = id) (hb : ∀ s ∈ C.take i, s.1 ≠ id) : findF C id = i := by
  unfold findF
  have e : (C.findIdx? fun s => decide (s.1 = id)) = some i := by
    rw [List.findIdx?_eq_some_iff_getElem]
    refine ⟨hi, ?_, ?_⟩
    · have : C.getD i default = C[i] := by simp [List.getD_eq_getElem?_getD, hi]
      rw [← this, h]; simp
    · intro j hj
      have hm : C[j] ∈ C.take i := by
        rw [List.mem_take_iff_getElem]
        exact ⟨j, by omega, rfl⟩
      simpa using hb _ hm
  rw [e]
theorem findF_none {C : List Stm} {id : Int} (hb : ∀ s ∈ C, s.1 ≠ id) : findF C id = -1 := by
  unfold findF
  have e : (C.findIdx? fun s => decide (s.1 = id)) = none := by
    rw [List.findIdx?_eq_none_iff]
    intro s hs
    simpa using hb s hs
  rw [e]
set_option maxHeartbeats 1000000 in
theorem find_spec (G : Nat → AVal) (C : List Stm) (hl : C.length ≤ 1000) (id : Int) (v : AVal) (m : Heap) (hs : RdS C v m) : CallWP Try.prog G 70 [v, .int .i64 id] m fun v' m' => v' = .int .i64 (findF C id) ∧ m' = m := by
  obtain ⟨L, hL⟩ : ∃ L, L = C.length := ⟨_, rfl⟩
  have H0 := Hid.mk hL
  have ll : (C.map encS).length = L := by rw [List.length_map]; exact hL.symm
  obtain ⟨b, pre, post, N, cap, hw⟩ := hs.ways hL
  have lL : L ≤ 1000 := by omega
  clear hs hL hl
  rcases hw with ⟨hv, hz⟩ | ⟨hv, hb⟩ | hv
  all_goals (
    refine callWP_body Try.func70 rfl (N := 20) rfl (rs := [.tmp 4]) rfl en_70 (of_decide_eq_true rfl) ?_
    repeat' (first | exact tf0 ‹_› | exact tf1 ‹_› | exact False.elim ‹_› | (with_reducible refine Al.intro ?_; intro pb hpb; (try simp only [hupd_none'] at hpb); (repeat rcases hpb with ⟨⟨hpx, hpy⟩, hpb⟩)) | with_reducible refine need ?_ | ((with_reducible first | refine frk0 ?_ ?_ | refine frk1 ?_ ?_ | refine frk2 ?_ ?_ | refine frk3 ?_ ?_ | refine frk4 ?_ ?_ | refine frk5 ?_ ?_ | refine frk6 ?_ ?_ | refine frk7 ?_ ?_ | refine frk8 ?_ ?_ | refine frk9 ?_ ?_) <;> intro h <;> try (exfalso; omega)) | with_reducible refine quiet_and ?_ ?_ | with_reducible refine awp_drawnA mixed (by decide +kernel) ?_ | ((fail_if_success with_reducible refine stp ?_); simp -implicitDefEqProofs only [go_sem, Nat.reduceEqDiff, Nat.reduceAdd, Nat.reduceLT, Nat.reduceMul, Nat.reduceSub, Nat.reduceLeDiff, ↓reduceIte, reduceCtorEq, ↓String.reduceEq, String.reduceNe, Int.reduceToNat, Int.reduceLT, Int.reduceLE, Int.reduceGT, Int.reduceGE, Int.reduceEq, Int.reduceNe, Int.reduceBEq, Int.reduceBNe, Int.reduceAdd, Int.reduceSub, Int.reduceMul, Int.reduceNeg,  *]))
    refine awp_loopP 0 (fun ts m' => Hid (∀ s ∈ C, s.1 ≠ id) ∧ m' = m) (fun k ts m' => ∃ i : Nat, Hid (k = L - i ∧ i ≤ L ∧ ∀ s ∈ C.take i, s.1 ≠ id) ∧ ts 0 = v ∧ ts 1 = .int .i64 id ∧ ts 5 = .int .i64 (i : Nat) ∧ m' = m) L ⟨0, .mk ⟨rfl, Nat.zero_le _, by simp⟩, by simp [upd, hv], ttt, ttt, rfl⟩ ?_ ?_
    · rintro k ts m2 ⟨i, H, t0, t1, t5, hm2⟩
      subst m2
      by_cases hi : i < L
      · have lt : (i : Int) < (L : Int) := by omega
        have hiC : i < C.length := by have := H0.out; omega
        obtain ⟨x, hx⟩ : ∃ x, C.getD i default = x := ⟨_, rfl⟩
        have g1 := sm_cell C pre post i hiC x hx 0 (by decide)
        rw [Nat.add_zero, show (encSc x).getD 0 .undef = .int .i64 x.1 from rfl] at g1
        have g2 := sm_lst C i hiC x hx
        have l1 := sm_len C pre post i hiC
        have w1 : IntKind.i64.wrap ((i : Int) + 1) = ((i + 1 : Nat) : Int) := by rw [wrap_i64 (by omega) (by omega)]; omega
        have hCt : C.take (i + 1) = C.take i ++ [x] := by rw [← hx, List.take_add_one]; simp [List.getD_eq_getElem?_getD, hiC]
        have HX := Hid.mk (And.intro hx hCt)
        clear hx hCt hiC
        by_cases hq : x.1 = id
        · have HF : Hid (findF C id = (i : Int)) := .mk (findF_at (by have := H0.out; omega) (by rw [HX.out.1]; exact hq) H.out.2.2)
          repeat' (first | exact tf0 ‹_› | exact tf1 ‹_› | exact False.elim ‹_› | (with_reducible refine Al.intro ?_; intro pb hpb; (try simp only [hupd_none'] at hpb); (repeat rcases hpb with ⟨⟨hpx, hpy⟩, hpb⟩)) | with_reducible refine need ?_ | ((with_reducible first | refine frk0 ?_ ?_ | refine frk1 ?_ ?_ | refine frk2 ?_ ?_ | refine frk3 ?_ ?_ | refine frk4 ?_ ?_ | refine frk5 ?_ ?_ | refine frk6 ?_ ?_ | refine frk7 ?_ ?_ | refine frk8 ?_ ?_ | refine frk9 ?_ ?_) <;> intro h <;> try (exfalso; omega)) | with_reducible refine quiet_and ?_ ?_ | with_reducible refine awp_drawnA mixed (by decide +kernel) ?_ | ((fail_if_success with_reducible refine stp ?_); simp -implicitDefEqProofs only [go_sem, Nat.reduceEqDiff, Nat.reduceAdd, Nat.reduceLT, Nat.reduceMul, Nat.reduceSub, Nat.reduceLeDiff, ↓reduceIte, reduceCtorEq, ↓String.reduceEq, String.reduceNe, Int.reduceToNat, Int.reduceLT, Int.reduceLE, Int.reduceGT, Int.reduceGE, Int.reduceEq, Int.reduceNe, Int.reduceBEq, Int.reduceBNe, Int.reduceAdd, Int.reduceSub, Int.reduceMul, Int.reduceNeg,  encSc, *]))
          all_goals exact ⟨_, Sub.refl _, by rw [HF.out], rfl⟩
        · repeat' (first | exact tf0 ‹_› | exact tf1 ‹_› | exact False.elim ‹_› | (with_reducible refine Al.intro ?_; intro pb hpb; (try simp only [hupd_none'] at hpb); (repeat rcases hpb with ⟨⟨hpx, hpy⟩, hpb⟩)) | with_reducible refine need ?_ | ((with_reducible first | refine frk0 ?_ ?_ | refine frk1 ?_ ?_ | refine frk2 ?_ ?_ | refine frk3 ?_ ?_ | refine frk4 ?_ ?_ | refine frk5 ?_ ?_ | refine frk6 ?_ ?_ | refine frk7 ?_ ?_ | refine frk8 ?_ ?_ | refine frk9 ?_ ?_) <;> intro h <;> try (exfalso; omega)) | with_reducible refine quiet_and ?_ ?_ | with_reducible refine awp_drawnA mixed (by decide +kernel) ?_ | ((fail_if_success with_reducible refine stp ?_); simp -implicitDefEqProofs only [go_sem, Nat.reduceEqDiff, Nat.reduceAdd, Nat.reduceLT, Nat.reduceMul, Nat.reduceSub, Nat.reduceLeDiff, ↓reduceIte, reduceCtorEq, ↓String.reduceEq, String.reduceNe, Int.reduceToNat, Int.reduceLT, Int.reduceLE, Int.reduceGT, Int.reduceGE, Int.reduceEq, Int.reduceNe, Int.reduceBEq, Int.reduceBNe, Int.reduceAdd, Int.reduceSub, Int.reduceMul, Int.reduceNeg,  encSc, *]))
          all_goals exact Again.intro ⟨L - (i + 1), by have := H.out; omega, _, Sub.refl _, i + 1, .mk ⟨rfl, by omega, fun s hs => by
            rw [HX.out.2] at hs
            rcases List.mem_append.1 hs with hs | hs
            · exact H.out.2.2 s hs
            · rw [List.mem_singleton.1 hs]; exact hq⟩, (by first | (simp only [upd, put, Nat.reduceEqDiff, ↓reduceIte, t0, hv]; done) | (simp [upd, put, t0, hv]; done) | rfl | (simp [upd, put, t0, hv]; rfl)), (by first | (simp only [upd, put, Nat.reduceEqDiff, ↓reduceIte, t1]; done) | (simp [upd, put, t1]; done) | rfl | (simp [upd, put, t1]; rfl)), ttt, rfl⟩
      · have lt : ¬ (i : Int) < (L : Int) := by omega
        repeat' (first | exact tf0 ‹_› | exact tf1 ‹_› | exact False.elim ‹_› | (with_reducible refine Al.intro ?_; intro pb hpb; (try simp only [hupd_none'] at hpb); (repeat rcases hpb with ⟨⟨hpx, hpy⟩, hpb⟩)) | with_reducible refine need ?_ | ((with_reducible first | refine frk0 ?_ ?_ | refine frk1 ?_ ?_ | refine frk2 ?_ ?_ | refine frk3 ?_ ?_ | refine frk4 ?_ ?_ | refine frk5 ?_ ?_ | refine frk6 ?_ ?_ | refine frk7 ?_ ?_ | refine frk8 ?_ ?_ | refine frk9 ?_ ?_) <;> intro h <;> try (exfalso; omega)) | with_reducible refine quiet_and ?_ ?_ | with_reducible refine awp_drawnA mixed (by decide +kernel) ?_ | ((fail_if_success with_reducible refine stp ?_); simp -implicitDefEqProofs only [go_sem, Nat.reduceEqDiff, Nat.reduceAdd, Nat.reduceLT, Nat.reduceMul, Nat.reduceSub, Nat.reduceLeDiff, ↓reduceIte, reduceCtorEq, ↓String.reduceEq, String.reduceNe, Int.reduceToNat, Int.reduceLT, Int.reduceLE, Int.reduceGT, Int.reduceGE, Int.reduceEq, Int.reduceNe, Int.reduceBEq, Int.reduceBNe, Int.reduceAdd, Int.reduceSub, Int.reduceMul, Int.reduceNeg,  *]))
        exact Again.intro ⟨.mk (by have h := H.out.2.2; rwa [List.take_of_length_le (by have := H0.out; omega)] at h), rfl⟩
    · rintro ts m2 ⟨H, hm2⟩
      subst m2
      have HF : Hid (findF C id = -1) := .mk (findF_none H.out)
      repeat' (first | exact tf0 ‹_› | exact tf1 ‹_› | exact False.elim ‹_› | (with_reducible refine Al.intro ?_; intro pb hpb; (try simp only [hupd_none'] at hpb); (repeat rcases hpb with ⟨⟨hpx, hpy⟩, hpb⟩)) | with_reducible refine need ?_ | ((with_reducible first | refine frk0 ?_ ?_ | refine frk1 ?_ ?_ | refine frk2 ?_ ?_ | refine frk3 ?_ ?_ | refine frk4 ?_ ?_ | refine frk5 ?_ ?_ | refine frk6 ?_ ?_ | refine frk7 ?_ ?_ | refine frk8 ?_ ?_ | refine frk9 ?_ ?_) <;> intro h <;> try (exfalso; omega)) | with_reducible refine quiet_and ?_ ?_ | with_reducible refine awp_drawnA mixed (by decide +kernel) ?_ | ((fail_if_success with_reducible refine stp ?_); simp -implicitDefEqProofs only [go_sem, Nat.reduceEqDiff, Nat.reduceAdd, Nat.reduceLT, Nat.reduceMul, Nat.reduceSub, Nat.reduceLeDiff, ↓reduceIte, reduceCtorEq, ↓String.reduceEq, String.reduceNe, Int.reduceToNat, Int.reduceLT, Int.reduceLE, Int.reduceGT, Int.reduceGE, Int.reduceEq, Int.reduceNe, Int.reduceBEq, Int.reduceBNe, Int.reduceAdd, Int.reduceSub, Int.reduceMul, Int.reduceNeg,  *]))
      exact ⟨_, Sub.refl _, by rw [HF.out], rfl⟩)
end Go.Proofs.Ytmifapnmlhchlaa
