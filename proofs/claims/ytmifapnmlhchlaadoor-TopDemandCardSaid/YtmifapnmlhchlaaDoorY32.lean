/- A few streams can be; fewer of them too; what they ask for then, in plain words. -/
import Derived.Test.YtmifapnmlhchlaaDoorY30
set_option linter.all false
namespace Go.Proofs.YtmifapnmlhchlaaDoor
open Go Go.Proofs.YtmifapnmlhchlaaDoor.Ab
open Go.Proofs (Tryd.prog)
theorem getD_get {α : Type} [Inhabited α] {C : List α} {i : Nat} (h : i < C.length) : C.getD i default = C[i] := by simp [List.getD_eq_getElem?_getD, h]
theorem rightC_iff (C : List Stm) (n : Int) : rightC C n ↔ C.length ≤ 64 ∧ (1 ≤ n ∧ n ≤ 1073741824) ∧ (∀ s ∈ C, rightS s = 0) ∧ C.Pairwise (fun a b => a.1 ≠ b.1) ∧ ∀ s ∈ C, s.2.2.1 = 1 → n ≤ s.2.2.2.2.1 := by
  constructor
  · rintro ⟨h1, h2, h3, h4, h5⟩
    refine ⟨h1, h2, h3, List.pairwise_iff_getElem.2 (fun i j hi hj hij e => ?_), h5⟩
    have a1 := h4 j hj
    have a2 := findF_le hi
    rw [getD_get hj] at a1
    rw [getD_get hi, e] at a2
    omega
  · rintro ⟨h1, h2, h3, h4, h5⟩
    refine ⟨h1, h2, h3, fun i hi => ?_, h5⟩
    rw [findF_at (i := i) hi rfl (fun s hs e => ?_)]
    · omega
    · obtain ⟨j, hj, rfl⟩ := List.getElem_of_mem hs
      rw [List.length_take] at hj
      rw [List.getElem_take, getD_get hi] at e
      exact List.pairwise_iff_getElem.1 h4 j i (by omega) hi (by omega) e
theorem rightC_sub {C D : List Stm} {n : Int} (h : rightC C n) (hs : D.Sublist C) : rightC D n := by
  rw [rightC_iff] at h ⊢
  exact ⟨Nat.le_trans hs.length_le h.1, h.2.1, fun s hx => h.2.2.1 s (hs.subset hx), h.2.2.2.1.sublist hs, fun s hx => h.2.2.2.2 s (hs.subset hx)⟩
theorem few_at (C : List Stm) (i j : Nat) (h : j < (fewN C i).length) : (fewN C i)[j].1 = j ∧ 100 ≤ (fewN C i)[j].2.2.2.2.1 := by
  unfold fewN at h ⊢
  rw [List.getElem_map]
  simp only [List.getElem_zipIdx, Nat.zero_add]
  unfold streamF
  refine ⟨rfl, ?_⟩
  show 100 ≤ partF _ _ + 100
  have a := partF_in ((C.take i)[j]'(by simpa using h)).2.2.2.1 4000 (by decide)
  have := (partF_in ((C.take i)[j]'(by simpa using h)).2.2.2.2.1 (partF ((C.take i)[j]'(by simpa using h)).2.2.2.1 4000 + 101) (by omega)).1
  omega
theorem few_rightC (C : List Stm) (n : Int) (h1 : 1 ≤ n) (h2 : n ≤ 100) : rightC (fewN C 6) n := by
  rw [rightC_iff]
  refine ⟨by rw [few_len]; omega, ⟨h1, by omega⟩, few_right C 6 (by decide), List.pairwise_iff_getElem.2 (fun i j hi hj hij e => ?_), fun s hs _ => ?_⟩
  · rw [(few_at C 6 i hi).1, (few_at C 6 j hj).1] at e; omega
  · obtain ⟨j, hj, rfl⟩ := List.getElem_of_mem hs
    have := (few_at C 6 j hj).2; omega
theorem foldl_le (b : Int) : ∀ (C : List Stm) (a : Int), a ≤ b → (∀ s ∈ C, costS s ≤ b) → C.foldl (fun a s => if a < costS s then costS s else a) a ≤ b
  | [], a, h, _ => h
  | s :: t, a, h, hs => by
    rw [List.foldl_cons]
    refine foldl_le b t _ ?_ (fun x hx => hs x (List.mem_cons_of_mem _ hx))
    split
    · exact hs s (by simp)
    · exact h
theorem blk_sub {C D : List Stm} (h : ∀ s ∈ D, s ∈ C) : blkF D ≤ blkF C :=
  foldl_le _ D 0 (blk_in C).1 (fun s hs => blk_le C s (h s hs))
theorem sum_sub : ∀ {l k : List Int}, k.Sublist l → (∀ x ∈ l, 0 ≤ x) → k.sum ≤ l.sum := by
  intro l k h
  induction h with
  | slnil => intro _; exact Int.le_refl _
  | cons a _ ih => intro h0; rw [List.sum_cons]; have := ih (fun x hx => h0 x (List.mem_cons_of_mem _ hx)); have := h0 a (by simp); omega
  | cons_cons a _ ih => intro h0; rw [List.sum_cons, List.sum_cons]; have := ih (fun x hx => h0 x (List.mem_cons_of_mem _ hx)); omega
theorem demF_sub {C D : List Stm} {x n : Int} (h : rightC C n) (h1 : 1 ≤ x) (h2 : x ≤ 65536) (hs : D.Sublist C) : demF D x n ≤ demF C x n := by
  unfold demF
  refine sum_sub (hs.map _) (fun y hy => ?_)
  obtain ⟨s, hs, rfl⟩ := List.mem_map.1 hy
  exact (demS_in (h.2.2.1 s hs) h1 h2 h.2.1.1 h.2.1.2).1
theorem sum_le {α : Type} (f g : α → Int) : ∀ (C : List α), (∀ s ∈ C, f s ≤ g s) → (C.map f).sum ≤ (C.map g).sum
  | [], _ => Int.le_refl _
  | s :: t, h => by
    rw [List.map_cons, List.map_cons, List.sum_cons, List.sum_cons]
    have := sum_le f g t (fun x hx => h x (List.mem_cons_of_mem _ hx))
    have := h s (by simp)
    omega
theorem demS_mono {s : Stm} (hr : rightS s = 0) {x y n k : Int} (h : x + n ≤ y + k) : demS s x n ≤ demS s y k := by
  have hT := (rightS_zero.1 hr).2.2.2.2.1
  have hc := (costS_in s).1
  unfold demS
  by_cases g : s.2.2.1 = 1 ∧ 0 ≤ x + n - 1 - s.2.2.2.2.1
  · rw [if_pos g, if_pos ⟨g.1, by omega⟩, Int.tdiv_eq_ediv_of_nonneg g.2, Int.tdiv_eq_ediv_of_nonneg (show 0 ≤ y + k - 1 - s.2.2.2.2.1 by omega)]
    have := Int.ediv_le_ediv (show 0 < s.2.2.2.1 by omega) (show x + n - 1 - s.2.2.2.2.1 ≤ y + k - 1 - s.2.2.2.2.1 by omega)
    exact Int.mul_le_mul_of_nonneg_right (by omega) hc
  · rw [if_neg g]
    split
    · rename_i g2
      exact Int.mul_nonneg (by have := Int.tdiv_nonneg g2.2 (show 0 ≤ s.2.2.2.1 by omega); omega) hc
    · exact Int.le_refl _
theorem demF_mono {C : List Stm} (hr : ∀ s ∈ C, rightS s = 0) {x y n k : Int} (h : x + n ≤ y + k) : demF C x n ≤ demF C y k :=
  sum_le _ _ C (fun s hs => demS_mono (hr s hs) h)
/-- Those that have deadlines. -/
def edfs (C : List Stm) : List Stm := C.filter fun s => decide (s.2.2.1 = 1)
theorem edfs_sub (C : List Stm) : (edfs C).Sublist C := List.filter_sublist
theorem sum_edfs (f : Stm → Int) (hf : ∀ s, s.2.2.1 ≠ 1 → f s = 0) : ∀ C : List Stm, ((edfs C).map f).sum = (C.map f).sum
  | [] => rfl
  | s :: t => by
    have ih := sum_edfs f hf t
    unfold edfs at ih ⊢
    by_cases h : s.2.2.1 = 1
    · rw [List.filter_cons_of_pos (by simpa using h), List.map_cons, List.map_cons, List.sum_cons, List.sum_cons, ih]
    · rw [List.filter_cons_of_neg (by simpa using h), List.map_cons, List.sum_cons, ih, hf s h, Int.zero_add]
theorem demF_edfs (C : List Stm) (x n : Int) : demF (edfs C) x n = demF C x n := sum_edfs (fun s => demS s x n) (fun s h => dem_skip h x n) C
theorem loadF_edfs (C : List Stm) : loadF (edfs C) = loadF C := sum_edfs loadS (fun s h => load_skip h) C
theorem edfs_take (C : List Stm) (i : Nat) (h : i < C.length) : edfs (C.take (i + 1)) = edfs (C.take i) ++ (if (C.getD i default).2.2.1 = 1 then [C.getD i default] else []) := by
  rw [take_one C i h]
  unfold edfs
  rw [List.filter_append]
  congr 1
  split
  · rename_i h; rw [List.filter_cons_of_pos (by simpa using h)]; rfl
  · rename_i h; rw [List.filter_cons_of_neg (by simpa using h)]; rfl
theorem demC_few (C : List Stm) (x n : Int) (h1 : 1 ≤ x) (h2 : x ≤ 65536) (hn : 1 ≤ n) (hn2 : n ≤ 100) : demC (fewN C 6) x n = demF (fewN C 6) x n := demC_pos h1 h2 (few_rightC C n hn hn2)
theorem demC_fsub (C D : List Stm) (x n : Int) (h1 : 1 ≤ x) (h2 : x ≤ 65536) (hn : 1 ≤ n) (hn2 : n ≤ 100) (hs : D.Sublist (fewN C 6)) : demC D x n = demF D x n := demC_pos h1 h2 (rightC_sub (few_rightC C n hn hn2) hs)
theorem demC_zero (C : List Stm) (n : Int) : demC C 0 n = 0 := by unfold demC; rw [if_neg (fun h => by have := h.1.1; omega)]
/-- A row without its first one. -/
theorem slm_tail {C : List Stm} {b o l cap : Nat} {m : Heap} (h : SlM encSc 7 C (.slice b o l cap) m) (h0 : 0 < C.length) : SlM encSc 7 (C.drop 1) (.slice b (o + 7) (l - 1) (cap - 1)) m := by
  obtain ⟨pre, post, N, rfl, rfl, hb, h1, h2⟩ := slm_slice h
  cases C with
  | nil => simp at h0
  | cons x t =>
    refine .inr ⟨b, _, hb, pre ++ encSc x, post, N, cap - 1, ?_, ?_, ?_, ?_⟩
    · congr 1; rw [List.length_append, encSc_len]
    · simp [List.flatMap_cons]
    · simp only [List.length_append, encSc_len]
      have : 1 ≤ cap := by simp at h2; omega
      omega
    · simp at h2 ⊢; omega
theorem slm_tail1 {C : List Stm} {b o l : Nat} {m : Heap} (h : SlM encSc 7 C (.slice b o l 1) m) (h0 : 0 < C.length) : l = 1 ∧ C.length = 1 ∧ C.drop 1 = [] ∧ SlM encSc 7 (C.drop 1) (.slice b o 0 0) m := by
  obtain ⟨pre, post, N, rfl, rfl, hb, h1, h2⟩ := slm_slice h
  have e : C.length = 1 := by omega
  have e2 : C.drop 1 = [] := List.drop_eq_nil_of_le (by omega)
  refine ⟨e, e, e2, ?_⟩
  rw [e2]
  exact .inr ⟨b, _, hb, pre, C.flatMap encSc ++ post, N, 0, rfl, rfl, by omega, Nat.le_refl _⟩
theorem slm_cap {C : List Stm} {b o l cap : Nat} {m : Heap} (h : SlM encSc 7 C (.slice b o l cap) m) : l = C.length ∧ C.length ≤ cap := by
  obtain ⟨pre, post, N, rfl, rfl, hb, h1, h2⟩ := slm_slice h
  exact ⟨rfl, h2⟩
end Go.Proofs.YtmifapnmlhchlaaDoor
