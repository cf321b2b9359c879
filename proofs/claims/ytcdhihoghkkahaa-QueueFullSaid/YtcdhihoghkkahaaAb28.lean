/- Slices that a call owns, as lists; one more behind them. -/
import Derived.Test.YtcdhihoghkkahaaAb27
set_option linter.all false
namespace Go.Proofs.Ytcdhihoghkkahaa.Ab
open Go

theorem neL {m : Heap} {p : Nat} {x : ABlk} (h : m p = some x) : ∀ b, m b = none → (p = b) = False := by
  intro b hb
  simp only [eq_iff_iff, iff_false]
  intro e; rw [e, hb] at h; cases h
theorem neR {m : Heap} {p : Nat} {x : ABlk} (h : m p = some x) : ∀ b, m b = none → (b = p) = False := by
  intro b hb
  simp only [eq_iff_iff, iff_false]
  intro e; rw [← e, hb] at h; cases h
theorem ne_of {m : Heap} {p b : Nat} {x : ABlk} (h : m p = some x) (hb : m b = none) : p ≠ b ∧ b ≠ p :=
  ⟨fun e => (by rw [e, hb] at h; cases h), fun e => (by rw [← e, hb] at h; cases h)⟩
theorem runOps_appc {P : Program} {G : Nat → AVal} {N : Nat} (ops : Array Oper) (x : Oper) (l r : List Oper) (ts : TS) (m : Heap) (K : TS → Heap → Prop) : runOps P G N ops (List.append (x :: l) r) ts m K = runOps P G N ops (x :: List.append l r) ts m K := rfl
theorem runOps_appn {P : Program} {G : Nat → AVal} {N : Nat} (ops : Array Oper) (r : List Oper) (ts : TS) (m : Heap) (K : TS → Heap → Prop) : runOps P G N ops (List.append [] r) ts m K = runOps P G N ops r ts m K := rfl
theorem app_cons {α : Type} (x : α) (l r : List α) : List.append (x :: l) r = x :: List.append l r := rfl
theorem app_nil {α : Type} (r : List α) : List.append [] r = r := rfl
theorem rep_1 (z : List AVal) : rep 1 z = z := by simp [rep]
theorem rep_0 (z : List AVal) : rep 0 z = [] := rfl
theorem rep_2 (z : List AVal) : rep 2 z = z ++ z := by simp [rep, List.replicate]
theorem rep_3 (z : List AVal) : rep 3 z = z ++ (z ++ z) := by simp [rep, List.replicate]
theorem run_eff (T : Heap → (AVal → Heap → Prop) → Prop) (m : Heap) (K : AVal → Heap → Prop) : (D.eff T).run m K = T m K := rfl
@[congr] theorem aappend_cong {P : Program} {st xt : TypeId} {s s' x x' : AVal} {m : Heap} {K : AVal → Heap → Prop} (h0 : mk s = s') (h1 : mk x = x') : aappend P st xt s x m K = aappend P st xt s' x' m K := by rw [mk_id] at h0 h1; rw [h0, h1]
@[congr] theorem acopy_cong {P : Program} {st : TypeId} {s s' x x' : AVal} {m : Heap} {K : AVal → Heap → Prop} (h0 : mk s = s') (h1 : mk x = x') : acopy P st s x m K = acopy P st s' x' m K := by rw [mk_id] at h0 h1; rw [h0, h1]

theorem quiet_and {P : Program} {G : Nat → AVal} {S0 : Nat → Prop} {m0 : Heap} {f : FuncId} {args : List AVal} {v : AVal} {r : Prop} (h : QCall P G S0 m0 f args v) (h' : r) : QCall P G S0 m0 f args v ∧ r := ⟨h, h'⟩
theorem isQuiet {P : Program} {G : Nat → AVal} {S0 : Nat → Prop} {m0 : Heap} {f : FuncId} {args : List AVal} {v : AVal} (h : QCall P G S0 m0 f args v) : QCall P G S0 m0 f args v := h
theorem isApp {P : Program} {st xt : TypeId} {s x : AVal} {m : Heap} {K : AVal → Heap → Prop} (h : aappend P st xt s x m K) : aappend P st xt s x m K := h
section
variable {α : Type} {enc : α → List AVal} {sz : Nat}
/-- A slice is a list, in a block. -/
def SlV (enc : α → List AVal) (sz : Nat) (C : List α) (v : AVal) (b : Nat) (blk : ABlk) : Prop :=
  ∃ pre post N cap, v = .slice b pre.length C.length cap ∧ blk = .cells (pre ++ (C.flatMap enc ++ post)) N ∧ pre.length + cap * sz ≤ N ∧ C.length ≤ cap
def SlM (enc : α → List AVal) (sz : Nat) (C : List α) (v : AVal) (m : Heap) : Prop := (v = .nils ∧ C = []) ∨ ∃ b blk, m b = some blk ∧ SlV enc sz C v b blk
theorem SlM.upd {C : List α} {v : AVal} {m : Heap} {p : Nat} {x : ABlk} (h : SlM enc sz C v m) (hp : ∀ b o l c, v = .slice b o l c → b ≠ p) : SlM enc sz C v (hupd m p x) := by
  rcases h with h | ⟨b, blk, hb, hv⟩
  · exact .inl h
  · have hv' := hv
    obtain ⟨pre, post, N, cap, rfl, _⟩ := hv'
    exact .inr ⟨b, blk, by rw [hupd_ne (hp _ _ _ _ rfl)]; exact hb, hv⟩
theorem SlM.fresh {C : List α} {v : AVal} {m : Heap} {p : Nat} {x : ABlk} (h : SlM enc sz C v m) (hp : m p = none) : SlM enc sz C v (hupd m p x) := by
  refine h.upd ?_
  rcases h with ⟨rfl, _⟩ | ⟨b, blk, hb, hv⟩
  · intro b o l c e; cases e
  · obtain ⟨pre, post, N, cap, rfl, _⟩ := hv
    intro b' o l c e
    cases e
    intro e; rw [e, hp] at hb; cases hb
theorem app_step {P : Program} {st xt e : TypeId} {a : Bool} {sz by' : Nat} {s x : AVal} {m : Heap} {K : AVal → Heap → Prop} (h1 : P.underlying st = some (.slice e)) (h2 : tk P e = some (a, sz)) (h3 : eb P e = some by') (h4 : zl P e = some sz) (h5 : 0 < by') (h6 : (P.underlying xt).isSome = true) (h7 : isInt P xt = false)
    (h : src sz m x fun n ys => ys.all AVal.flat = true ∧ appTo sz by' n ys s m K) : aappend P st xt s x m K := by
  unfold aappend
  rw [h1]
  simp only [h2, h3]
  refine ⟨⟨h5, h6, h4⟩, ?_⟩
  unfold appSrc
  rw [h7]
  exact h
/-- More behind a slice. -/
theorem app_to {by' : Nat} {C E : List α} {s : AVal} {m : Heap} {K : AVal → Heap → Prop} (henc : ∀ a, (enc a).length = sz) (hs : SlM enc sz C s m) (h0 : 0 < E.length) (hlen : (C.length + E.length) * by' ≤ 1099511627776)
    (hK : ∀ b v' blk, (m b = none ∨ (∃ o l c, s = .slice b o l c)) → SlV enc sz (C ++ E) v' b blk → K v' (hupd m b blk)) : appTo sz by' E.length (E.flatMap enc) s m K := by
  rcases hs with ⟨rfl, rfl⟩ | ⟨b, blk, hb, pre, post, N, cap, rfl, rfl, hN, hc⟩
  · simp only [appTo]
    refine ⟨fun h => by omega, fun _ => ⟨by simpa using hlen, fun b cap hb hcap => ?_⟩⟩
    exact hK b _ _ (.inl hb) ⟨[], [], cap * sz, cap, by simp, by simp, by simp, by simpa using hcap⟩
  · simp only [appTo, hb]
    have el : (C.flatMap enc).length = C.length * sz := flat_len henc C
    refine ⟨⟨?_, hN⟩, fun hle => ?_, fun hlt => ⟨hlen, fun b' cap' hb' hcap' => ?_⟩⟩
    · rw [List.length_append, List.length_append, el]; omega
    · refine hK b _ _ (.inr ⟨_, _, _, rfl⟩) ⟨pre, post.drop (E.length * sz), N, cap, by simp, ?_, hN, by simpa using hle⟩
      unfold splice
      have e1 : (pre ++ (C.flatMap enc ++ post)).take (pre.length + C.length * sz) = pre ++ C.flatMap enc := by
        rw [List.take_length_add_append, ← el, List.take_left]
      have e2 : (pre ++ (C.flatMap enc ++ post)).drop (pre.length + C.length * sz + (E.flatMap enc).length) = post.drop (E.length * sz) := by
        rw [flat_len henc E, Nat.add_assoc, List.drop_length_add_append, ← el, List.drop_length_add_append]
      rw [e1, e2, List.flatMap_append]; simp
    · refine hK b' _ _ (.inl hb') ⟨[], [], cap' * sz, cap', by simp, ?_, by simp, by simpa using hcap'⟩
      rw [List.drop_left, ← el, List.take_left, List.flatMap_append]; simp
theorem row_len (henc : ∀ a, (enc a).length = sz) (C : List α) (pre post : List AVal) (i : Nat) (hi : i < C.length) : pre.length + i * sz + sz ≤ (pre ++ (C.flatMap enc ++ post)).length := by
  have := flat_room henc C post i hi
  rw [List.length_append]; omega
theorem row_at [Inhabited α] (henc : ∀ a, (enc a).length = sz) (C : List α) (pre post : List AVal) (i : Nat) (hi : i < C.length) : ((pre ++ (C.flatMap enc ++ post)).drop (pre.length + i * sz)).take sz = enc (C.getD i default) := by
  rw [List.drop_length_add_append, flat_at henc C post i hi]
  simp [List.getD_eq_getElem?_getD, hi]
theorem row_at1 [Inhabited α] {f : α → AVal} (C : List α) (pre post : List AVal) (i : Nat) (hi : i < C.length) : (pre ++ (C.flatMap (fun a => [f a]) ++ post)).getD (pre.length + i) .undef = f (C.getD i default) := by
  have := flat_getD C f post i hi
  rw [List.getD_eq_getElem?_getD, List.getElem?_append_right (by omega), Nat.add_sub_cancel_left, ← List.getD_eq_getElem?_getD, this]
  simp [List.getD_eq_getElem?_getD, hi]
theorem SlV.tail {C : List α} {b : Nat} {blk : ABlk} {o l c : Nat} (henc : ∀ a, (enc a).length = sz) (h : SlV enc sz C (.slice b o l c) b blk) (h0 : 0 < C.length) : SlV enc sz C.tail (.slice b (if c = 1 then o else o + sz) (l - 1) (c - 1)) b blk := by
  obtain ⟨pre, post, N, cap, h1, h2, h3, h4⟩ := h
  simp only [AVal.slice.injEq, true_and] at h1
  obtain ⟨rfl, rfl, rfl⟩ := h1
  match C, h0 with
  | x :: C, _ =>
  by_cases hc : c = 1
  · subst hc
    have : C = [] := by simpa using h4
    subst this
    exact ⟨pre, enc x ++ post, N, 0, by simp, by rw [h2]; simp, by omega, by simp⟩
  · rw [if_neg hc]
    refine ⟨pre ++ enc x, post, N, c - 1, ?_, ?_, ?_, ?_⟩
    · simp [henc]
    · rw [h2]; simp
    · rw [List.length_append, henc]
      obtain ⟨k, rfl⟩ : ∃ k, c = k + 1 := ⟨c - 1, by simp at h4; omega⟩
      rw [Nat.succ_mul] at h3
      simp only [Nat.add_sub_cancel]; omega
    · simp at h4 ⊢; omega
end
end Go.Proofs.Ytcdhihoghkkahaa.Ab
