/- Heaps: what holds of one on its way up, or down. Merging in place: what lists come to. Rows kept in the order of a key, and among equal keys in the order of a place. Rows sorted in blocks. -/
import Derived.Test.YtmifapnmlhchlaaLg7
set_option linter.all false
namespace Go.Proofs.Ytmifapnmlhchlaa.Ab
section
variable {α : Type} [Inhabited α] {lt : α → α → Bool}
/-- A strict order that may not part some. -/
structure WO (lt : α → α → Bool) : Prop where
  asym : ∀ a b, lt a b = true → lt b a = false
  nt : ∀ a b c, lt a b = false → lt b c = false → lt a c = false
def HeapO (lt : α → α → Bool) (H : List α) (n : Nat) : Prop := ∀ k, 1 ≤ k → k < n → lt (H.getD k default) (H.getD ((k - 1) / 2) default) = false
structure UpI (lt : α → α → Bool) (H : List α) (n j : Nat) : Prop where
  h : ∀ k, 1 ≤ k → k < n → k ≠ j → lt (H.getD k default) (H.getD ((k - 1) / 2) default) = false
  c : ∀ k, 1 ≤ k → k < n → (k - 1) / 2 = j → 1 ≤ j → lt (H.getD k default) (H.getD ((j - 1) / 2) default) = false
structure DnI (lt : α → α → Bool) (H : List α) (n i : Nat) : Prop where
  h : ∀ k, 1 ≤ k → k < n → (k - 1) / 2 ≠ i → lt (H.getD k default) (H.getD ((k - 1) / 2) default) = false
  c : ∀ k, 1 ≤ k → k < n → (k - 1) / 2 = i → 1 ≤ i → lt (H.getD k default) (H.getD ((i - 1) / 2) default) = false
theorem getD_app1 (H : List α) (x : α) (k : Nat) (hk : k < H.length) : (H ++ [x]).getD k default = H.getD k default := by
  simp only [List.getD_eq_getElem?_getD, List.getElem?_append_left hk]
theorem UpI.start {H : List α} (h : HeapO lt H H.length) (x : α) : UpI lt (H ++ [x]) (H.length + 1) H.length := by
  refine ⟨fun k h1 h2 h3 => ?_, fun k h1 h2 h3 h4 => by omega⟩
  rw [getD_app1 H x k (by omega), getD_app1 H x _ (by omega)]
  exact h k h1 (by omega)
theorem UpI.done {H : List α} {n j : Nat} (h : UpI lt H n j) (hj : j = 0 ∨ lt (H.getD j default) (H.getD ((j - 1) / 2) default) = false) : HeapO lt H n := by
  intro k h1 h2
  by_cases e : k = j
  · subst e
    rcases hj with h0 | h0
    · omega
    · exact h0
  · exact h.h k h1 h2 e
theorem UpI.step (O : WO lt) {H : List α} {j : Nat} (h : UpI lt H H.length j) (hj : j < H.length) (h0 : 1 ≤ j) (hl : lt (H.getD j default) (H.getD ((j - 1) / 2) default) = true) : UpI lt (swp H ((j - 1) / 2) j) (swp H ((j - 1) / 2) j).length ((j - 1) / 2) := by
  rw [swp_len]
  obtain ⟨i, hi⟩ : ∃ i, i = (j - 1) / 2 := ⟨_, rfl⟩
  rw [← hi] at hl ⊢
  have hil : i < H.length := by omega
  have hij : i ≠ j := by omega
  have G : ∀ k, (swp H i j).getD k default = if k = j then H.getD i default else if k = i then H.getD j default else H.getD k default := fun k => swp_getD H i j k hil hj
  refine ⟨fun k h1 h2 h3 => ?_, fun k h1 h2 h3 h4 => ?_⟩
  · rw [G, G]
    by_cases e1 : k = j
    · subst e1
      rw [if_pos rfl, ← hi, if_neg hij, if_pos rfl]
      exact O.asym _ _ hl
    · rw [if_neg e1, if_neg h3]
      by_cases e2 : (k - 1) / 2 = j
      · rw [if_pos e2, hi]; exact h.c k h1 h2 e2 h0
      · rw [if_neg e2]
        by_cases e3 : (k - 1) / 2 = i
        · rw [if_pos e3]
          refine O.nt _ _ _ ?_ (O.asym _ _ hl)
          have := h.h k h1 h2 e1; rw [e3] at this; exact this
        · rw [if_neg e3]; exact h.h k h1 h2 e1
  · rw [G, G, if_neg (show (i - 1) / 2 ≠ j by omega), if_neg (show (i - 1) / 2 ≠ i by omega)]
    have hg := h.h i h4 hil hij
    by_cases e1 : k = j
    · rw [if_pos e1]; exact hg
    · rw [if_neg e1, if_neg (show k ≠ i by omega)]
      have := h.h k h1 h2 e1
      rw [h3] at this
      exact O.nt _ _ _ this hg
theorem DnI.done {H : List α} {n i : Nat} (h : DnI lt H n i) (hd : ∀ k, 1 ≤ k → k < n → (k - 1) / 2 = i → lt (H.getD k default) (H.getD i default) = false) : HeapO lt H n := by
  intro k h1 h2
  by_cases e : (k - 1) / 2 = i
  · have := hd k h1 h2 e; rw [e]; exact this
  · exact h.h k h1 h2 e
theorem DnI.step (O : WO lt) {H : List α} {n i c : Nat} (h : DnI lt H n i) (hn : n ≤ H.length) (hc : c < n) (h1 : 1 ≤ c) (hp : (c - 1) / 2 = i) (hm : ∀ k, 1 ≤ k → k < n → (k - 1) / 2 = i → lt (H.getD k default) (H.getD c default) = false) (hl : lt (H.getD c default) (H.getD i default) = true) : DnI lt (swp H i c) n c := by
  have hil : i < H.length := by omega
  have hcl : c < H.length := by omega
  have hic : i ≠ c := by omega
  have G : ∀ k, (swp H i c).getD k default = if k = c then H.getD i default else if k = i then H.getD c default else H.getD k default := fun k => swp_getD H i c k hil hcl
  refine ⟨fun k k1 k2 k3 => ?_, fun k k1 k2 k3 k4 => ?_⟩
  · rw [G, G]
    by_cases e1 : k = c
    · subst e1
      rw [if_pos rfl, hp, if_neg hic, if_pos rfl]
      exact O.asym _ _ hl
    · rw [if_neg e1]
      by_cases e2 : (k - 1) / 2 = i
      · rw [if_neg (show k ≠ i by omega), e2, if_neg hic, if_pos rfl]
        exact hm k k1 k2 e2
      · rw [if_neg k3, if_neg e2]
        by_cases e3 : k = i
        · rw [if_pos e3]
          have := h.c c h1 hc hp (by omega)
          rw [e3]; exact this
        · rw [if_neg e3]; exact h.h k k1 k2 e2
  · rw [G, G, if_neg (show k ≠ c by omega), if_neg (show k ≠ i by omega), hp, if_neg hic, if_pos rfl]
    have := h.h k k1 k2 (by omega)
    rw [k3] at this; exact this
theorem HeapO.root (O : WO lt) {H : List α} {n : Nat} (h : HeapO lt H n) : ∀ k, k < n → lt (H.getD k default) (H.getD 0 default) = false := by
  intro k
  induction k using Nat.strongRecOn with
  | _ k ih =>
    intro hk
    by_cases e : k = 0
    · subst e
      cases hx : lt (H.getD 0 default) (H.getD 0 default) with
      | false => rfl
      | true => have := O.asym _ _ hx; rw [hx] at this; cases this
    · exact O.nt _ _ _ (h k (by omega) hk) (ih ((k - 1) / 2) (by omega) (by omega))
theorem HeapO.nil (H : List α) : HeapO lt H 0 := fun k _ h => by omega
/-- The first one and the last one changed places: what is ahead of the last one is a heap but at its root. -/
theorem DnI.start {H : List α} (h : HeapO lt H H.length) (h0 : 0 < H.length) : DnI lt (swp H 0 (H.length - 1)) (H.length - 1) 0 := by
  have G : ∀ k, k < H.length - 1 → (swp H 0 (H.length - 1)).getD k default = if k = 0 then H.getD (H.length - 1) default else H.getD k default := fun k hk => by
    rw [swp_getD H 0 (H.length - 1) k h0 (by omega), if_neg (by omega)]
  refine ⟨fun k k1 k2 k3 => ?_, fun k k1 k2 k3 k4 => by omega⟩
  rw [G k k2, G _ (by omega), if_neg (by omega), if_neg k3]
  exact h k k1 (by omega)
theorem swp_last (H : List α) (h0 : 0 < H.length) : (swp H 0 (H.length - 1)).getD (H.length - 1) default = H.getD 0 default := by
  rw [swp_getD H 0 (H.length - 1) _ h0 (by omega), if_pos rfl]
end
end Go.Proofs.Ytmifapnmlhchlaa.Ab
namespace Go.Proofs.Ytmifapnmlhchlaa.Ab
section
variable {α : Type} [Inhabited α]
theorem getD_mid (A : List α) (x : α) (B : List α) : (A ++ x :: B).getD A.length default = x := by
  simp [List.getD_eq_getElem?_getD]
theorem getD_midN (A : List α) (x : α) (B : List α) {n : Nat} (hn : n = A.length) : (A ++ x :: B).getD n default = x := by
  subst hn; exact getD_mid A x B
theorem set_mid (A : List α) (x y : α) (B : List α) : (A ++ x :: B).set A.length y = A ++ y :: B := by
  simp
theorem swp_mid (A : List α) (x : α) (M : List α) (y : α) (B : List α) {i j : Nat} (hi : i = A.length) (hj : j = A.length + 1 + M.length) : swp (A ++ x :: (M ++ y :: B)) i j = A ++ y :: (M ++ x :: B) := by
  unfold swp
  have e1 : (A ++ x :: (M ++ y :: B)).getD i default = x := getD_midN A x _ hi
  have e2 : (A ++ x :: (M ++ y :: B)).getD j default = y := by
    have := getD_midN (A ++ x :: M) y B (n := j) (by simp; omega)
    simpa using this
  rw [e1, e2]
  subst hi
  rw [set_mid]
  have e3 : A ++ y :: (M ++ y :: B) = (A ++ y :: M) ++ y :: B := by simp
  have e4 : j = (A ++ y :: M).length := by simp; omega
  rw [e3, e4, set_mid]
  simp
theorem swp_mid' (A : List α) (x : α) (M : List α) (y : α) (B : List α) {i j : Nat} (hi : i = A.length) (hj : j = A.length + 1 + M.length) : swp (A ++ x :: (M ++ y :: B)) j i = A ++ y :: (M ++ x :: B) := by
  unfold swp
  have e1 : (A ++ x :: (M ++ y :: B)).getD i default = x := getD_midN A x _ hi
  have e2 : (A ++ x :: (M ++ y :: B)).getD j default = y := by
    have := getD_midN (A ++ x :: M) y B (n := j) (by simp; omega)
    simpa using this
  rw [e1, e2]
  have e3 : A ++ x :: (M ++ y :: B) = (A ++ x :: M) ++ y :: B := by simp
  have e4 : j = (A ++ x :: M).length := by simp; omega
  rw [e3, e4, set_mid]
  subst hi
  have e5 : (A ++ x :: M) ++ x :: B = A ++ x :: (M ++ x :: B) := by simp
  rw [e5, set_mid]
/-- A list, cut at a place within. -/
theorem cut_at (L : List α) (k : Nat) (h : k < L.length) : L = L.take k ++ L.getD k default :: L.drop (k + 1) := by
  have e : L.getD k default = L[k] := by simp [List.getD_eq_getElem?_getD, h]
  rw [e, ← List.drop_eq_getElem_cons h, List.take_append_drop]
theorem getD_mem (L : List α) (k : Nat) (h : k < L.length) : L.getD k default ∈ L := by
  simp [List.getD_eq_getElem?_getD, h]
theorem take_mem (L : List α) (k : Nat) {x : α} (h : x ∈ L.take k) : ∃ i, i < k ∧ i < L.length ∧ L.getD i default = x := by
  obtain ⟨i, hi, rfl⟩ := List.getElem_of_mem h
  simp only [List.length_take] at hi
  exact ⟨i, by omega, by omega, by simp [List.getD_eq_getElem?_getD, show i < L.length by omega]⟩
theorem drop_mem (L : List α) (k : Nat) {x : α} (h : x ∈ L.drop k) : ∃ i, k ≤ i ∧ i < L.length ∧ L.getD i default = x := by
  obtain ⟨i, hi, rfl⟩ := List.getElem_of_mem h
  simp only [List.length_drop] at hi
  exact ⟨k + i, by omega, by omega, by simp [List.getD_eq_getElem?_getD, show k + i < L.length by omega]⟩
/-- Swapping blocks, so far. -/
theorem swap_blocks (X P M Q Y : List α) (h : P.length = Q.length) (i : Nat) (hi : i < P.length) :
    swp (X ++ ((Q.take i ++ P.drop i) ++ (M ++ ((P.take i ++ Q.drop i) ++ Y)))) (X.length + i) (X.length + P.length + M.length + i) = X ++ ((Q.take (i + 1) ++ P.drop (i + 1)) ++ (M ++ ((P.take (i + 1) ++ Q.drop (i + 1)) ++ Y))) := by
  have hq : i < Q.length := by omega
  have ep : P.drop i = P.getD i default :: P.drop (i + 1) := by
    have e : P.getD i default = P[i] := by simp [List.getD_eq_getElem?_getD, hi]
    rw [e, ← List.drop_eq_getElem_cons hi]
  have eq : Q.drop i = Q.getD i default :: Q.drop (i + 1) := by
    have e : Q.getD i default = Q[i] := by simp [List.getD_eq_getElem?_getD, hq]
    rw [e, ← List.drop_eq_getElem_cons hq]
  have tp : P.take (i + 1) = P.take i ++ [P.getD i default] := by
    have e : P.getD i default = P[i] := by simp [List.getD_eq_getElem?_getD, hi]
    rw [e, List.take_append_getElem hi]
  have tq : Q.take (i + 1) = Q.take i ++ [Q.getD i default] := by
    have e : Q.getD i default = Q[i] := by simp [List.getD_eq_getElem?_getD, hq]
    rw [e, List.take_append_getElem hq]
  have := swp_mid (X ++ Q.take i) (P.getD i default) (P.drop (i + 1) ++ (M ++ P.take i)) (Q.getD i default) (Q.drop (i + 1) ++ Y) (i := X.length + i) (j := X.length + P.length + M.length + i)
    (by simp only [List.length_append, List.length_take]; omega) (by simp only [List.length_append, List.length_take, List.length_drop]; omega)
  rw [ep, eq, tp, tq]
  simpa only [List.append_assoc, List.cons_append, List.nil_append, List.singleton_append] using this
end
end Go.Proofs.Ytmifapnmlhchlaa.Ab
namespace Go.Proofs.Ytmifapnmlhchlaa.Ab
section
variable {α : Type} [Inhabited α] (k t : α → Int)
/-- By key, then by place. -/
def Rk (x y : α) : Prop := k x < k y ∨ (k x = k y ∧ t x < t y)
variable {k t}
theorem Rk.key {x y : α} (h : Rk k t x y) : k x ≤ k y := by rcases h with h | h <;> omega
theorem key_take {A : List α} (h : A.Pairwise (Rk k t)) {i : Nat} (hi : i < A.length) : ∀ u ∈ A.take (i + 1), k u ≤ k (A.getD i default) := by
  intro u hu
  obtain ⟨j, hj, hjl, rfl⟩ := take_mem _ _ hu
  by_cases e : j = i
  · rw [e]; exact Int.le_refl _
  · have := (List.pairwise_iff_getElem.1 h) j i hjl hi (by omega)
    simpa [List.getD_eq_getElem?_getD, hjl, hi] using this.key
theorem key_drop {A : List α} (h : A.Pairwise (Rk k t)) {i : Nat} (hi : i < A.length) : ∀ u ∈ A.drop i, k (A.getD i default) ≤ k u := by
  intro u hu
  obtain ⟨j, hj, hjl, rfl⟩ := drop_mem _ _ hu
  by_cases e : j = i
  · rw [e]; exact Int.le_refl _
  · have := (List.pairwise_iff_getElem.1 h) i j hi hjl (by omega)
    simpa [List.getD_eq_getElem?_getD, hjl, hi] using this.key
/-- Two rows cut so that the halves fit: they may be sorted apart. -/
theorem merge_cut {A1 A2 B1 B2 S1 S2 : List α} (hA : (A1 ++ A2).Pairwise (Rk k t)) (hB : (B1 ++ B2).Pairwise (Rk k t)) (ht : ∀ u ∈ A1 ++ A2, ∀ v ∈ B1 ++ B2, t u < t v)
    (h1 : ∀ u ∈ A1, ∀ v ∈ B2, k u ≤ k v) (h2 : ∀ v ∈ B1, ∀ u ∈ A2, k v < k u)
    (s1 : S1.Pairwise (Rk k t)) (p1 : S1.Perm (A1 ++ B1)) (s2 : S2.Pairwise (Rk k t)) (p2 : S2.Perm (A2 ++ B2)) :
    (S1 ++ S2).Pairwise (Rk k t) ∧ (S1 ++ S2).Perm ((A1 ++ A2) ++ (B1 ++ B2)) := by
  rw [List.pairwise_append] at hA hB
  constructor
  · rw [List.pairwise_append]
    refine ⟨s1, s2, ?_⟩
    intro u hu v hv
    rw [p1.mem_iff, List.mem_append] at hu
    rw [p2.mem_iff, List.mem_append] at hv
    rcases hu with hu | hu <;> rcases hv with hv | hv
    · exact hA.2.2 u hu v hv
    · have a1 := h1 u hu v hv
      have a2 := ht u (List.mem_append_left _ hu) v (List.mem_append_right _ hv)
      unfold Rk; omega
    · have a1 := h2 u hu v hv
      unfold Rk; omega
    · exact hB.2.2 u hu v hv
  · refine (p1.append p2).trans ?_
    rw [List.append_assoc, List.append_assoc]
    refine List.Perm.append_left _ ?_
    rw [← List.append_assoc, ← List.append_assoc]
    exact (List.perm_append_comm).append_right _
/-- The cut, said with the keys at the cut. -/
theorem cut_keys {A B : List α} (hA : A.Pairwise (Rk k t)) (hB : B.Pairwise (Rk k t)) {i j : Nat} (hi : i ≤ A.length) (hj : j ≤ B.length)
    (h1 : i = 0 ∨ j = B.length ∨ k (A.getD (i - 1) default) ≤ k (B.getD j default)) (h2 : j = 0 ∨ i = A.length ∨ k (B.getD (j - 1) default) < k (A.getD i default)) :
    (∀ u ∈ A.take i, ∀ v ∈ B.drop j, k u ≤ k v) ∧ (∀ v ∈ B.take j, ∀ u ∈ A.drop i, k v < k u) := by
  constructor
  · intro u hu v hv
    rcases h1 with rfl | rfl | h1
    · simp at hu
    · simp at hv
    · cases i with
      | zero => simp at hu
      | succ i =>
        have hjl : j < B.length := by
          rcases Nat.lt_or_ge j B.length with h | h
          · exact h
          · rw [List.drop_eq_nil_of_le h] at hv; simp at hv
        have a := key_take hA (i := i) (by omega) u hu
        have b := key_drop hB hjl v hv
        simp only [Nat.add_sub_cancel] at h1
        omega
  · intro v hv u hu
    rcases h2 with rfl | rfl | h2
    · simp at hv
    · simp at hu
    · cases j with
      | zero => simp at hv
      | succ j =>
        have hil : i < A.length := by
          rcases Nat.lt_or_ge i A.length with h | h
          · exact h
          · rw [List.drop_eq_nil_of_le h] at hu; simp at hu
        have a := key_take hB (i := j) (by omega) v hv
        have b := key_drop hA hil u hu
        simp only [Nat.add_sub_cancel] at h2
        omega
/-- A later one put in its place. -/
theorem put_in {A1 A2 : List α} {w : α} (hA : (A1 ++ A2).Pairwise (Rk k t)) (ht : ∀ u ∈ A1 ++ A2, t u < t w) (h1 : ∀ u ∈ A1, k u ≤ k w) (h2 : ∀ u ∈ A2, k w < k u) :
    (A1 ++ w :: A2).Pairwise (Rk k t) := by
  rw [List.pairwise_append] at hA ⊢
  refine ⟨hA.1, List.pairwise_cons.2 ⟨fun u hu => .inl (h2 u hu), hA.2.1⟩, ?_⟩
  intro u hu v hv
  rcases List.mem_cons.1 hv with rfl | hv
  · have a := h1 u hu
    have b := ht u (List.mem_append_left _ hu)
    unfold Rk; omega
  · exact hA.2.2 u hu v hv
/-- An earlier one put in its place. -/
theorem put_first {A1 A2 : List α} {w : α} (hA : (A1 ++ A2).Pairwise (Rk k t)) (ht : ∀ u ∈ A1 ++ A2, t w < t u) (h1 : ∀ u ∈ A1, k u < k w) (h2 : ∀ u ∈ A2, k w ≤ k u) :
    (A1 ++ w :: A2).Pairwise (Rk k t) := by
  rw [List.pairwise_append] at hA ⊢
  refine ⟨hA.1, List.pairwise_cons.2 ⟨fun u hu => ?_, hA.2.1⟩, ?_⟩
  · have a := h2 u hu
    have b := ht u (List.mem_append_right _ hu)
    unfold Rk; omega
  · intro u hu v hv
    rcases List.mem_cons.1 hv with rfl | hv
    · exact .inl (h1 u hu)
    · exact hA.2.2 u hu v hv
/-- The keys on both sides of a place. -/
theorem cut_one {A : List α} (hA : A.Pairwise (Rk k t)) {i : Nat} (hi : i ≤ A.length) {x : Int} :
    ((i = 0 ∨ k (A.getD (i - 1) default) < x) → ∀ u ∈ A.take i, k u < x) ∧ ((i = 0 ∨ k (A.getD (i - 1) default) ≤ x) → ∀ u ∈ A.take i, k u ≤ x) ∧
    ((i = A.length ∨ x < k (A.getD i default)) → ∀ u ∈ A.drop i, x < k u) ∧ ((i = A.length ∨ x ≤ k (A.getD i default)) → ∀ u ∈ A.drop i, x ≤ k u) := by
  have up : ∀ u ∈ A.take i, i ≠ 0 ∧ k u ≤ k (A.getD (i - 1) default) := by
    intro u hu
    cases i with
    | zero => simp at hu
    | succ i => exact ⟨by omega, key_take hA (by omega) u hu⟩
  have dn : ∀ u ∈ A.drop i, i ≠ A.length ∧ k (A.getD i default) ≤ k u := by
    intro u hu
    have hil : i < A.length := by
      rcases Nat.lt_or_ge i A.length with h | h
      · exact h
      · rw [List.drop_eq_nil_of_le h] at hu; simp at hu
    exact ⟨by omega, key_drop hA hil u hu⟩
  refine ⟨fun h u hu => ?_, fun h u hu => ?_, fun h u hu => ?_, fun h u hu => ?_⟩
  · have := up u hu; omega
  · have := up u hu; omega
  · have := dn u hu; omega
  · have := dn u hu; omega
/-- A row so ordered is one row. -/
theorem Rk.one {A B : List α} (hA : A.Pairwise (Rk k t)) (hB : B.Pairwise (Rk k t)) (p : A.Perm B) : A = B := by
  refine List.Perm.eq_of_pairwise (le := Rk k t) ?_ hA hB p
  intro x y _ _ a b
  exfalso
  unfold Rk at a b
  omega
end
end Go.Proofs.Ytmifapnmlhchlaa.Ab
namespace Go.Proofs.Ytmifapnmlhchlaa.Ab
section
variable {α : Type} (k t : α → Int)
/-- The second row is the first with its blocks of n each put in order. -/
inductive BlkS (n : Nat) : List α → List α → Prop
  | last {A S : List α} (hl : A.length ≤ n) (hs : S.Pairwise (Rk k t)) (hp : S.Perm A) : BlkS n A S
  | cons {A S C D : List α} (hl : A.length = n) (hs : S.Pairwise (Rk k t)) (hp : S.Perm A) (h : BlkS n C D) : BlkS n (A ++ C) (S ++ D)
variable {k t}
theorem BlkS.perm {n : Nat} {C D : List α} (h : BlkS k t n C D) : D.Perm C := by
  induction h with
  | last _ _ hp => exact hp
  | cons _ _ hp _ ih => exact hp.append ih
theorem BlkS.pop {n : Nat} (hn : 0 < n) {C D : List α} (h : BlkS k t n C D) (hl : n ≤ C.length) : ∃ A S C' D', C = A ++ C' ∧ D = S ++ D' ∧ A.length = n ∧ S.Pairwise (Rk k t) ∧ S.Perm A ∧ BlkS k t n C' D' := by
  cases h with
  | last hl' hs hp => exact ⟨C, D, [], [], by simp, by simp, by omega, hs, hp, .last (by simp) (by simp) (by simp)⟩
  | cons hl' hs hp h => exact ⟨_, _, _, _, rfl, rfl, hl', hs, hp, h⟩
theorem BlkS.one {n : Nat} (hn : 0 < n) {C D : List α} (h : BlkS k t n C D) (hl : C.length ≤ n) : D.Pairwise (Rk k t) ∧ D.Perm C := by
  refine ⟨?_, h.perm⟩
  cases h with
  | last _ hs _ => exact hs
  | cons hl' hs hp h =>
    rename_i A S C D
    rw [List.length_append] at hl
    have e : C = [] := List.eq_nil_of_length_eq_zero (by omega)
    subst e
    have e2 : D = [] := List.eq_nil_of_length_eq_zero (by rw [h.perm.length_eq]; rfl)
    subst e2
    simpa using hs
/-- What stands ahead is done. -/
def PreS (k t : α → Int) (n : Nat) (C P : List α) : Prop := C.length = P.length ∧ ∀ R S, BlkS k t n R S → BlkS k t n (C ++ R) (P ++ S)
theorem PreS.nil {n : Nat} : PreS k t n [] [] := ⟨rfl, fun _ _ h => h⟩
theorem PreS.step {n : Nat} {C P A S : List α} (h : PreS k t n C P) (hl : A.length = n) (hs : S.Pairwise (Rk k t)) (hp : S.Perm A) : PreS k t n (C ++ A) (P ++ S) := by
  refine ⟨by rw [List.length_append, List.length_append, h.1, hp.length_eq], ?_⟩
  intro R T hg
  rw [List.append_assoc, List.append_assoc]
  exact h.2 _ _ (.cons hl hs hp hg)
theorem PreS.last {n : Nat} {C P A S : List α} (h : PreS k t n C P) (hl : A.length ≤ n) (hs : S.Pairwise (Rk k t)) (hp : S.Perm A) : BlkS k t n (C ++ A) (P ++ S) := h.2 _ _ (.last hl hs hp)
end
end Go.Proofs.Ytmifapnmlhchlaa.Ab
