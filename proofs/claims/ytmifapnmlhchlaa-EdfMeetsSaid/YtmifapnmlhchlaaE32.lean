/- Jobs of streams, as they come. -/
import Derived.Test.YtmifapnmlhchlaaE31
set_option linter.all false
namespace Go.Proofs.Ytmifapnmlhchlaa
open Go Go.Proofs.Ytmifapnmlhchlaa.Ab
open Go.Proofs (Try.prog)
set_option maxRecDepth 100000
set_option maxHeartbeats 1000000 in
theorem job25_spec (G : Nat → AVal) (s : Stm) (at_ : Int) (hr : rightS s = 0) (h0 : 0 ≤ at_) (h1 : at_ ≤ 100000) : Ans G 39 [encS s, .int .i64 at_] (.tuple [.agg [.int .i64 s.1, .int .i64 at_, .int .i64 (at_ + s.2.2.2.2.1), .int .i64 (costS s)], .int .i64 0]) := by
  intro m
  have hs := rightS_zero.1 hr
  have n1 : ¬ at_ < 0 := by omega
  have n2 : ¬ 1125899906842624 < at_ := by omega
  have w1 : IntKind.i64.wrap (at_ + s.2.2.2.2.1) = at_ + s.2.2.2.2.1 := wrap_i64 (by omega) (by omega)
  have HR := Hid.mk hr
  clear hr hs h0 h1
  obtain ⟨c, hc⟩ : ∃ c, c = costS s := ⟨_, rfl⟩
  have HC := Hid.mk hc
  rw [← hc]
  clear hc
  refine callWP_body Try.func39 rfl (N := 30) rfl (rs := [.cell 4 42, .tmp 5]) rfl en_39 (of_decide_eq_true rfl) ?_
  repeat' (first | exact tf0 ‹_› | exact tf1 ‹_› | exact False.elim ‹_› | (with_reducible refine Al.intro ?_; intro pb hpb; (try simp only [hupd_none'] at hpb); (repeat rcases hpb with ⟨⟨hpx, hpy⟩, hpb⟩)) | with_reducible refine need ?_ | ((with_reducible first | refine frk0 ?_ ?_ | refine frk1 ?_ ?_ | refine frk2 ?_ ?_ | refine frk3 ?_ ?_ | refine frk4 ?_ ?_ | refine frk5 ?_ ?_ | refine frk6 ?_ ?_ | refine frk7 ?_ ?_ | refine frk8 ?_ ?_ | refine frk9 ?_ ?_) <;> intro h <;> try (exfalso; omega)) | with_reducible refine quiet_and ?_ ?_ | with_reducible refine awp_drawnA mixed (by decide +kernel) ?_ | ((fail_if_success with_reducible refine stp ?_); simp -implicitDefEqProofs only [go_sem, Nat.reduceEqDiff, Nat.reduceAdd, Nat.reduceLT, Nat.reduceMul, Nat.reduceSub, Nat.reduceLeDiff, ↓reduceIte, reduceCtorEq, ↓String.reduceEq, String.reduceNe, Int.reduceToNat, Int.reduceLT, Int.reduceLE, Int.reduceGT, Int.reduceGE, Int.reduceEq, Int.reduceNe, Int.reduceBEq, Int.reduceBNe, Int.reduceAdd, Int.reduceSub, Int.reduceMul, Int.reduceNeg,  encS, encSc, *]))
  refine CallWP.to (sright_spec G s _) ?_
  rw [HR.out]
  repeat' (first | exact tf0 ‹_› | exact tf1 ‹_› | exact False.elim ‹_› | (with_reducible refine Al.intro ?_; intro pb hpb; (try simp only [hupd_none'] at hpb); (repeat rcases hpb with ⟨⟨hpx, hpy⟩, hpb⟩)) | with_reducible refine need ?_ | ((with_reducible first | refine frk0 ?_ ?_ | refine frk1 ?_ ?_ | refine frk2 ?_ ?_ | refine frk3 ?_ ?_ | refine frk4 ?_ ?_ | refine frk5 ?_ ?_ | refine frk6 ?_ ?_ | refine frk7 ?_ ?_ | refine frk8 ?_ ?_ | refine frk9 ?_ ?_) <;> intro h <;> try (exfalso; omega)) | with_reducible refine quiet_and ?_ ?_ | with_reducible refine awp_drawnA mixed (by decide +kernel) ?_ | ((fail_if_success with_reducible refine stp ?_); simp -implicitDefEqProofs only [go_sem, Nat.reduceEqDiff, Nat.reduceAdd, Nat.reduceLT, Nat.reduceMul, Nat.reduceSub, Nat.reduceLeDiff, ↓reduceIte, reduceCtorEq, ↓String.reduceEq, String.reduceNe, Int.reduceToNat, Int.reduceLT, Int.reduceLE, Int.reduceGT, Int.reduceGE, Int.reduceEq, Int.reduceNe, Int.reduceBEq, Int.reduceBNe, Int.reduceAdd, Int.reduceSub, Int.reduceMul, Int.reduceNeg,  *]))
  refine awp_drawnE [(0, .q), (1, .q), (2, .q), (3, .q), (4, .q), (5, .q), (6, .q), (7, .q), (8, .k), (9, .q), (10, .e), (11, .q)] (fun i => match i with | 8 => .int .i64 c | _ => .undef) (fun _ => False) (fun _ _ => False) mixed (by decide +kernel) ?_
  repeat' (first | exact tf0 ‹_› | exact tf1 ‹_› | exact False.elim ‹_› | (with_reducible refine Al.intro ?_; intro pb hpb; (try simp only [hupd_none'] at hpb); (repeat rcases hpb with ⟨⟨hpx, hpy⟩, hpb⟩)) | with_reducible refine need ?_ | ((with_reducible first | refine frk0 ?_ ?_ | refine frk1 ?_ ?_ | refine frk2 ?_ ?_ | refine frk3 ?_ ?_ | refine frk4 ?_ ?_ | refine frk5 ?_ ?_ | refine frk6 ?_ ?_ | refine frk7 ?_ ?_ | refine frk8 ?_ ?_ | refine frk9 ?_ ?_) <;> intro h <;> try (exfalso; omega)) | with_reducible refine quiet_and ?_ ?_ | with_reducible refine awp_drawnA mixed (by decide +kernel) ?_ | ((fail_if_success with_reducible refine stp ?_); simp -implicitDefEqProofs only [go_sem, Nat.reduceEqDiff, Nat.reduceAdd, Nat.reduceLT, Nat.reduceMul, Nat.reduceSub, Nat.reduceLeDiff, ↓reduceIte, reduceCtorEq, ↓String.reduceEq, String.reduceNe, Int.reduceToNat, Int.reduceLT, Int.reduceLE, Int.reduceGT, Int.reduceGE, Int.reduceEq, Int.reduceNe, Int.reduceBEq, Int.reduceBNe, Int.reduceAdd, Int.reduceSub, Int.reduceMul, Int.reduceNeg,  *]))
  · exact fun m' _ => by rw [HC.out]; exact cost_spec G s m'
  refine ⟨m, (by (repeat refine Sub.fresh ?_ (by assumption)); exact Sub.refl m), ?_, rfl⟩
  rfl
/-- When a frame comes: of which stream, and how long after the least time. -/
abbrev Cm := Int × Int
def encCm (c : Cm) : AVal := .agg [.int .i64 c.1, .int .u16 c.2]
theorem cm_at (l : List Cm) (i : Nat) (h : i < l.length) (x : Cm) (hx : l.getD i default = x) : (l.map encCm).getD i .undef = .agg [.int .i64 x.1, .int .u16 x.2] := by
  rw [← hx]; simp [List.getD_eq_getElem?_getD, h, encCm]
/-- The least times at which the next ones may come. -/
def NextOK (C : List Stm) (T : List Tg) (N : List Int) : Prop := N.length = C.length ∧ (∀ k, k < C.length → 0 ≤ N.getD k 0 ∧ N.getD k 0 ≤ 20000) ∧ ∀ a ∈ T, a.2 + (C.getD a.1 default).2.2.2.1 ≤ N.getD a.1 0
theorem NextOK.step {C : List Stm} {T : List Tg} {N : List Int} (h : NextOK C T N) (hT : CameT C T) {k : Nat} (hk : k < C.length) {at_ : Int} (h1 : N.getD k 0 ≤ at_) (h2 : at_ + (C.getD k default).2.2.2.2.1 ≤ 9000) (hp : 0 ≤ (C.getD k default).2.2.2.1 ∧ (C.getD k default).2.2.2.1 ≤ 10000) (hd : 0 ≤ (C.getD k default).2.2.2.2.1) :
    NextOK C (T ++ [(k, at_)]) (N.set k (at_ + (C.getD k default).2.2.2.1)) ∧ CameT C (T ++ [(k, at_)]) := by
  obtain ⟨a, b, c⟩ := h
  have hkN : k < N.length := by omega
  have hg : ∀ j, (N.set k (at_ + (C.getD k default).2.2.2.1)).getD j 0 = if j = k then at_ + (C.getD k default).2.2.2.1 else N.getD j 0 := by
    intro j
    split
    · rename_i h; subst h; simp [List.getD_eq_getElem?_getD, hkN]
    · rename_i h
      rw [List.getD_eq_getElem?_getD, List.getElem?_set_ne (by omega), List.getD_eq_getElem?_getD]
  have hb := b k hk
  refine ⟨⟨by rw [List.length_set]; exact a, ?_, ?_⟩, ?_, ?_⟩
  · intro j hj
    rw [hg]
    split
    · omega
    · exact b j hj
  · intro x hx
    rw [hg]
    rcases List.mem_append.1 hx with hx | hx
    · split
      · rename_i h
        have := c x hx
        rw [h] at this ⊢
        omega
      · exact c x hx
    · rw [List.mem_singleton.1 hx, if_pos rfl]; exact Int.le_refl _
  · intro x hx
    rcases List.mem_append.1 hx with hx | hx
    · exact hT.1 x hx
    · rw [List.mem_singleton.1 hx]; exact ⟨hk, by simp only; omega, h2⟩
  · rw [List.pairwise_append]
    refine ⟨hT.2, List.pairwise_singleton _ _, ?_⟩
    intro x hx y hy
    rw [List.mem_singleton.1 hy]
    intro e
    have := c x hx
    rw [e] at this ⊢
    simp only at this ⊢
    omega
theorem NextOK.start (C : List Stm) : NextOK C [] (List.replicate C.length 0) := by
  refine ⟨List.length_replicate, ?_, by simp⟩
  intro k hk
  simp [List.getD_eq_getElem?_getD, hk]
/-- Streams of which some jobs are made. -/
def GoodC (C : List Stm) : Prop := C.length ≤ 6 ∧ ∀ s ∈ C, rightS s = 0 ∧ s.2.2.2.1 ≤ 10000
/-- A row of numbers. -/
def rowN (D : List Int) (N : Nat) : ABlk := .cells (D.flatMap encN) N
theorem rowN_at (D : List Int) (i : Nat) (h : i < D.length) (x : Int) (hx : D.getD i 0 = x) : (D.flatMap encN).getD i .undef = .int .i64 x := by
  rw [encN_map, ← hx]; simp [List.getD_eq_getElem?_getD, h]
theorem rowN_set (D : List Int) (i : Nat) (x : Int) (h : i < D.length) : splice (D.flatMap encN) i [.int .i64 x] = (D.set i x).flatMap encN := by
  have := flat_set (enc := encN) (sz := 1) (fun _ => rfl) D [] i x h
  rw [Nat.mul_one, List.append_nil, List.append_nil] at this
  exact this
theorem rowN_len (D : List Int) : (D.flatMap encN).length = D.length := by rw [encN_map, List.length_map]
theorem rowN_rep (k : Nat) : ABlk.cells (rep k [AVal.int .i64 0]) k = rowN (List.replicate k 0) k := by
  unfold rowN
  rw [rep_one, encN_map, List.map_replicate]
end Go.Proofs.Ytmifapnmlhchlaa
