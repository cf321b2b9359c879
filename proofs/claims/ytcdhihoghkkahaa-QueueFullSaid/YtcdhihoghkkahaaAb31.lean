/- One slice behind another: what append leaves as it was. -/
import Derived.Test.YtcdhihoghkkahaaAb30
set_option linter.all false
namespace Go.Proofs.Ytcdhihoghkkahaa.Ab
open Go
/-- The block that a value leads to. -/
def bOf : AVal → Option Nat
  | .ptr b _ => some b
  | .slice b _ _ _ => some b
  | _ => none
/-- What other blocks hold stays; the new value's block is new, or the old one's. -/
def AppFr (v : AVal) (m : Heap) (v' : AVal) (m' : Heap) : Prop := (∀ x, bOf v ≠ some x → m x ≠ none → m' x = m x) ∧ ∀ b, bOf v' = some b → m b = none ∨ bOf v = some b
theorem AppFr.refl (v : AVal) (m : Heap) : AppFr v m v m := ⟨fun _ _ _ => rfl, fun _ h => .inr h⟩
/-- What is held beside the slice goes on. -/
theorem AppFr.sub {mb m m' : Heap} {v v' : AVal} (h : AppFr v m v' m') (s : Sub mb m) (hv : ∀ b, bOf v = some b → mb b = none) : Sub mb m' ∧ ∀ b, bOf v' = some b → mb b = none := by
  refine ⟨fun x y hx => ?_, fun b hb => ?_⟩
  · have h1 := s x y hx
    rw [h.1 x (fun e => by rw [hv x e] at hx; cases hx) (by rw [h1]; simp)]
    exact h1
  · rcases h.2 b hb with h1 | h1
    · exact s.gone h1
    · exact hv b h1
section
variable {α : Type} {enc : α → List AVal} {sz : Nat}
theorem SlM.slv {C : List α} {v : AVal} {m : Heap} (h : SlM enc sz C v m) : (v = .nils ∧ C = []) ∨ ∃ b o cap, v = .slice b o C.length cap := by
  rcases h with h | ⟨b, blk, hb, pre, post, N, cap, rfl, _⟩
  · exact .inl h
  · exact .inr ⟨_, _, _, rfl⟩
theorem SlM.keep {C : List α} {v : AVal} {m m' : Heap} (h : SlM enc sz C v m) (hk : ∀ b, bOf v = some b → m' b = m b) : SlM enc sz C v m' := by
  rcases h with h | ⟨b, blk, hb, hv⟩
  · exact .inl h
  · refine .inr ⟨b, blk, (hk b ?_).trans hb, hv⟩
    obtain ⟨pre, post, N, cap, rfl, _⟩ := hv; rfl
theorem SlM.into {C : List α} {v : AVal} {m m' : Heap} (h : SlM enc sz C v m) (s : Sub m m') : SlM enc sz C v m' := by
  rcases h with h | ⟨b, blk, hb, hv⟩
  · exact .inl h
  · exact .inr ⟨b, blk, s _ _ hb, hv⟩
theorem SlM.at' {C : List α} {v : AVal} {m : Heap} (h : SlM enc sz C v m) (h0 : 0 < C.length) : ∃ b pre post N cap, m b = some (.cells (pre ++ (C.flatMap enc ++ post)) N) ∧ v = .slice b pre.length C.length cap ∧ pre.length + cap * sz ≤ N ∧ C.length ≤ cap := by
  rcases h with ⟨_, rfl⟩ | ⟨b, blk, hb, pre, post, N, cap, rfl, rfl, h1, h2⟩
  · simp at h0
  · exact ⟨b, pre, post, N, cap, hb, rfl, h1, h2⟩
theorem appN {P : Program} {st xt e : TypeId} {a : Bool} {by' : Nat} {v : AVal} {m : Heap} {K : AVal → Heap → Prop} {b N cap : Nat} {pre post : List AVal} {C E : List α}
    (h1 : P.underlying st = some (.slice e)) (h2 : tk P e = some (a, sz)) (h3 : eb P e = some by') (h4 : zl P e = some sz) (h5 : 0 < by') (h6 : (P.underlying xt).isSome = true) (h7 : isInt P xt = false)
    (henc : ∀ a, (enc a).length = sz) (hfl : (E.flatMap enc).all AVal.flat = true) (hb : m b = some (.cells (pre ++ (E.flatMap enc ++ post)) N)) (hs : SlM enc sz C v m) (hlen : (C.length + E.length) * by' ≤ 1099511627776)
    (hK : ∀ v' m', SlM enc sz (C ++ E) v' m' → AppFr v m v' m' → K v' m') : aappend P st xt v (.slice b pre.length E.length cap) m K := by
  refine app_step h1 h2 h3 h4 h5 h6 h7 ?_
  have el : (E.flatMap enc).length = E.length * sz := flat_len henc E
  simp only [src, hb]
  refine ⟨by rw [List.length_append, List.length_append, el]; omega, ?_⟩
  rw [List.drop_left, ← el, List.take_left]
  refine ⟨hfl, ?_⟩
  by_cases h0 : 0 < E.length
  · refine app_to henc hs h0 hlen (fun b' v' blk hbf hv => hK v' _ (.inr ⟨b', blk, by simp [hupd], hv⟩) ⟨fun x hx hm => ?_, fun c hc => ?_⟩)
    · have : x ≠ b' := by
        rintro rfl
        rcases hbf with h | ⟨o, l, c, rfl⟩
        · exact hm h
        · exact hx rfl
      simp only [hupd]; rw [if_neg this]
    · obtain ⟨p1, p2, p3, p4, rfl, _⟩ := hv
      simp only [bOf, Option.some.injEq] at hc
      subst hc
      rcases hbf with h | ⟨o, l, c, rfl⟩
      · exact .inl h
      · exact .inr rfl
  · have hE : E = [] := List.eq_nil_of_length_eq_zero (by omega)
    subst hE
    rw [List.append_nil] at hK
    rcases hs with ⟨rfl, rfl⟩ | ⟨b', blk, hb', pre', post', N', cap', rfl, rfl, hN, hc⟩
    · simp only [appTo]
      exact ⟨fun _ => hK .nils m (.inl ⟨rfl, rfl⟩) (AppFr.refl _ _), fun h => absurd h (by simp)⟩
    · have el' : (C.flatMap enc).length = C.length * sz := flat_len henc C
      simp only [appTo, hb']
      refine ⟨⟨by rw [List.length_append, List.length_append, el']; omega, hN⟩, fun _ => ?_, fun h => absurd h (by simp; omega)⟩
      have e1 : splice (pre' ++ (C.flatMap enc ++ post')) (pre'.length + C.length * sz) (List.flatMap enc []) = pre' ++ (C.flatMap enc ++ post') := by unfold splice; simp only [List.flatMap_nil, List.append_nil, List.length_nil, Nat.add_zero, List.take_append_drop]
      rw [e1]
      refine hK _ _ (.inr ⟨b', _, by simp [hupd], pre', post', N', cap', rfl, rfl, hN, hc⟩) ⟨fun x _ _ => ?_, fun c hc => .inr hc⟩
      simp only [hupd]
      split
      · rename_i e; rw [e, hb']
      · rfl
/-- One more behind a slice: it lies in a block of its own. -/
theorem app1 {P : Program} {st xt e : TypeId} {a : Bool} {by' : Nat} {v : AVal} {m : Heap} {K : AVal → Heap → Prop} {b cap : Nat} {C : List α} {x : α}
    (h1 : P.underlying st = some (.slice e)) (h2 : tk P e = some (a, sz)) (h3 : eb P e = some by') (h4 : zl P e = some sz) (h5 : 0 < by') (h6 : (P.underlying xt).isSome = true) (h7 : isInt P xt = false)
    (henc : ∀ a, (enc a).length = sz) (hfl : (enc x).all AVal.flat = true) (hb : ∃ N, m b = some (.cells (enc x) N)) (hs : SlM enc sz C v m) (hlen : (C.length + 1) * by' ≤ 1099511627776)
    (hK : ∀ v' m', SlM enc sz (C ++ [x]) v' m' → AppFr v m v' m' → K v' m') : aappend P st xt v (.slice b 0 1 cap) m K := by
  obtain ⟨N, hb⟩ := hb
  exact appN (pre := []) (post := []) (E := [x]) (N := N) h1 h2 h3 h4 h5 h6 h7 henc (by simpa using hfl) (by simpa using hb) hs (by simpa using hlen) hK
end
end Go.Proofs.Ytcdhihoghkkahaa.Ab
