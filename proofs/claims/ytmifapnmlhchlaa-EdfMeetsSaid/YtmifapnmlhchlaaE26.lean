/- What is sent, one by one: the plain law. -/
import Derived.Test.YtmifapnmlhchlaaE23
set_option linter.all false
namespace Go.Proofs.Ytmifapnmlhchlaa
open Go Go.Proofs.Ytmifapnmlhchlaa.Ab
open Go.Proofs (Try.prog)
/-- When a job's frame ends. -/
def endOf (x : Wt × Int) : Int := x.2 + x.1.1.2.2.2
/-- When the wire is idle ahead of the i-th. -/
def lastOf (now : Int) (S : List (Wt × Int)) : Nat → Int
  | 0 => now
  | i + 1 => endOf (S.getD i default)
theorem Sends.nth {n : Int} {R : List Wt} {now : Int} {S : List (Wt × Int)} (h : Sends n R now S) : ∀ i, i < S.length → ∀ x, S.getD i default = x →
    lastOf now S i ≤ x.2 ∧ kT x.1 ≤ x.2 ∧ (lastOf now S i < x.2 → ∀ y ∈ S.drop i, x.2 ≤ kT y.1) ∧ (∀ y ∈ S.drop i, kT y.1 ≤ x.2 → ltW n y.1 x.1 = false) := by
  induction h with
  | nil => intro i hi; cases hi
  | @cons R R' now t w S hp ht hw hl hs ih =>
    intro i hi x hx
    have hm : ∀ y ∈ (w, t) :: S, y.1 ∈ R := by
      intro y hy
      rcases List.mem_cons.1 hy with rfl | hy
      · exact hp.mem_iff.1 (by simp)
      · exact hp.mem_iff.1 (List.mem_cons_of_mem _ (hs.perm.mem_iff.1 (List.mem_map_of_mem hy)))
    cases i with
    | zero =>
      have hx' : (w, t) = x := hx
      subst hx'
      refine ⟨?_, hw, ?_, ?_⟩
      · rcases ht with ⟨e, -⟩ | ⟨e, -⟩
        · rw [e]; exact Int.le_refl _
        · exact Int.le_of_lt e
      · intro hlt y hy
        rcases ht with ⟨e, -⟩ | ⟨-, -, h3⟩
        · have : now < t := hlt
          omega
        · exact h3 _ (hm y (List.mem_of_mem_drop hy))
      · intro y hy hk
        exact hl _ (hm y (List.mem_of_mem_drop hy)) hk
    | succ j =>
      have hj : j < S.length := by simpa using hi
      have hx' : S.getD j default = x := hx
      have := ih j hj x hx'
      have e : lastOf now ((w, t) :: S) (j + 1) = lastOf (t + w.1.2.2.2) S j := by
        cases j with
        | zero => rfl
        | succ k => rfl
      rw [e]
      exact this
/-- One cell of a row of structs. -/
theorem cell_of {α : Type} [Inhabited α] {enc : α → List AVal} {sz : Nat} (henc : ∀ a, (enc a).length = sz) (C : List α) (pre post : List AVal) (i : Nat) (hi : i < C.length) (x : α) (hx : C.getD i default = x) (k : Nat) (hk : k < sz) :
    (pre ++ (C.flatMap enc ++ post)).getD (pre.length + i * sz + k) .undef = (enc x).getD k .undef := by
  have h := row_at henc C pre post i hi
  rw [hx] at h
  generalize pre ++ (C.flatMap enc ++ post) = L at h
  generalize pre.length + i * sz = a at h
  rw [← h]
  simp [List.getD_eq_getElem?_getD, List.getElem?_take, hk]
/-- The flags of what was sent. -/
def Seen (S : List (Wt × Int)) (i : Nat) (D : List Bool) : Prop := ∀ c : Nat, c < D.length → (D.getD c false = true ↔ ∃ x ∈ S.take i, x.1.2 = (c : Int))
theorem Seen.step {S : List (Wt × Int)} {i c : Nat} {D : List Bool} (h : Seen S i D) (hi : i < S.length) {x : Wt × Int} (hx : S.getD i default = x) (hc : x.1.2 = (c : Int)) (hcl : c < D.length) : Seen S (i + 1) (D.set c true) := by
  have e : S.take (i + 1) = S.take i ++ [x] := by rw [← hx, List.take_add_one]; simp [List.getD_eq_getElem?_getD, hi]
  intro d hd
  rw [List.length_set] at hd
  rw [e]
  by_cases hdc : d = c
  · subst hdc
    rw [show (D.set d true).getD d false = true by simp [List.getD_eq_getElem?_getD, hd]]
    exact ⟨fun _ => ⟨x, by simp, hc⟩, fun _ => rfl⟩
  · rw [show (D.set c true).getD d false = D.getD d false by rw [List.getD_eq_getElem?_getD, List.getD_eq_getElem?_getD, List.getElem?_set_ne (by omega)], h d hd]
    constructor
    · rintro ⟨y, hy, r⟩
      exact ⟨y, List.mem_append_left _ hy, r⟩
    · rintro ⟨y, hy, ey⟩
      rcases List.mem_append.1 hy with hy | hy
      · exact ⟨y, hy, ey⟩
      · rw [List.mem_singleton.1 hy, hc] at ey
        omega
theorem Seen.start (S : List (Wt × Int)) (L : Nat) : Seen S 0 (List.replicate L false) := fun c hc => by
  simp only [List.getD_eq_getElem?_getD, List.getElem?_replicate, List.take_zero]; split <;> simp
/-- The next one was not sent yet. -/
theorem Seen.next {n : Int} {J : List Jb} {S : List (Wt × Int)} (hs : Sends n (idxJ J) 0 S) {i c : Nat} {D : List Bool} (h : Seen S i D) (hi : i < S.length) {x : Wt × Int} (hx : S.getD i default = x) (hc : x.1.2 = (c : Int)) (hcl : c < D.length) : D.getD c false = false := by
  cases hd : D.getD c false with
  | false => rfl
  | true =>
    exfalso
    obtain ⟨y, hy, ey⟩ := (h c hcl).1 hd
    obtain ⟨j, hj, hjl, rfl⟩ := take_mem _ _ hy
    have hp := List.pairwise_iff_getElem.1 (List.nodup_iff_pairwise_ne.1 (sent_nodup hs)) j i (by simpa using hjl) (by simpa using hi) hj
    simp only [List.getElem_map] at hp
    apply hp
    have a1 : S.getD j default = S[j] := by simp [List.getD_eq_getElem?_getD, hjl]
    have a2 : S.getD i default = S[i] := by simp [List.getD_eq_getElem?_getD, hi]
    rw [← a1, ← a2, ey, hx, hc]
/-- Who was not sent yet is sent later. -/
theorem Seen.rest {n : Int} {J : List Jb} {S : List (Wt × Int)} (hs : Sends n (idxJ J) 0 S) {i c : Nat} {D : List Bool} (h : Seen S i D) (hc : c < J.length) (hcl : c < D.length) (hd : D.getD c false = false) {z : Jb} (hz : J.getD c default = z) : ∃ t, ((z, (c : Int)), t) ∈ S.drop i := by
  have hm : (z, (c : Int)) ∈ S.map Prod.fst := hs.perm.mem_iff.2 (mem_idx.2 ⟨c, hc, by rw [hz]⟩)
  obtain ⟨y, hy, ey⟩ := List.mem_map.1 hm
  rw [← List.take_append_drop i S] at hy
  rcases List.mem_append.1 hy with hy | hy
  · have := (h c hcl).2 ⟨y, hy, by rw [ey]⟩
    rw [hd] at this; cases this
  · exact ⟨y.2, by rw [← ey]; exact hy⟩
end Go.Proofs.Ytmifapnmlhchlaa
