/- What is summed up over a table's rows. Fates on several frames, in whatever order. -/
import Derived.Test.YtdckcophbmnjjaaDoorW15
set_option linter.all false
namespace Go.Proofs.YtdckcophbmnjjaaDoor
open Go Go.Proofs.YtdckcophbmnjjaaDoor.Ab
set_option maxRecDepth 100000
theorem takeF_err {C : List Stm} {L : List Ntd} {tag : Int} {j : Jb} (h : (takeF C L tag j).1 ≠ 0) : (takeF C L tag j).2 = L := by
  unfold takeF at h ⊢
  split
  · rfl
  · rename_i h1
    rw [if_neg h1] at h
    split
    · rfl
    · rename_i h2
      rw [if_neg h2] at h
      split
      · rfl
      · rename_i h3; rw [if_neg h3] at h; exact absurd rfl h
theorem fateF_err {L : List Ntd} {tag k at1 : Int} (h : (fateF L tag k at1).1 ≠ 0) : (fateF L tag k at1).2 = L := by
  unfold fateF at h ⊢
  split
  · rfl
  · rename_i i e
    rw [e] at h
    simp only at h
    split
    · rfl
    · rename_i h1
      rw [if_neg h1] at h
      split
      · rfl
      · rename_i h2
        rw [if_neg h2] at h
        split
        · rfl
        · rename_i h3; rw [if_neg h3] at h; exact absurd rfl h
theorem takeF_len (C : List Stm) (L : List Ntd) (tag : Int) (j : Jb) : (takeF C L tag j).2.length ≤ L.length + 1 := by
  unfold takeF; (repeat' split) <;> simp
theorem fateF_len (L : List Ntd) (tag k at1 : Int) : (fateF L tag k at1).2.length = L.length := by
  unfold fateF; (repeat' split) <;> simp
theorem takeF_good {C : List Stm} {L : List Ntd} (tag : Int) (j : Jb) (h : GoodL C L) : GoodL C (takeF C L tag j).2 := by
  unfold takeF
  split
  · exact h
  · split
    · exact h
    · rename_i hf
      split
      · exact h
      · rename_i hj
        intro x hx
        rcases List.mem_append.1 hx with hx | hx
        · exact h x hx
        · rw [List.mem_singleton.1 hx]
          simp only
          rcases findF_cases C j.1 with ⟨e, _⟩ | ⟨i, e, hi, hid⟩
          · rw [e] at hf; exact absurd (by decide) hf
          · have hm := getD_mem C i hi
            rw [e, Int.toNat_natCast] at hj
            refine ⟨⟨_, hm, hid⟩, ⟨by decide, by decide⟩, ?_⟩
            have h2 : (jobS (C.getD i default) j.2.1).2 = 0 := Decidable.byContradiction fun hc => hj (.inl hc)
            have h3 : (jobS (C.getD i default) j.2.1).1 = j := Decidable.byContradiction fun hc => hj (.inr hc)
            unfold jobS at h2 h3
            by_cases hr : rightS (C.getD i default) = 0
            · rw [if_pos hr] at h2 h3
              by_cases hb : 0 ≤ j.2.1 ∧ j.2.1 ≤ 1125899906842624
              · rw [if_pos hb] at h3
                have hz := (rightS_zero.1 hr).2.2.2.2
                rw [← h3]
                simp only
                omega
              · rw [if_neg hb] at h2; exact absurd h2 (by decide)
            · rw [if_neg hr] at h2; exact absurd h2 hr
theorem fateF_good {C : List Stm} {L : List Ntd} (tag k at1 : Int) (h : GoodL C L) : GoodL C (fateF L tag k at1).2 := by
  unfold fateF
  split
  · exact h
  · rename_i i e
    have hi := (tagIdx_lt e).1
    split
    · exact h
    · rename_i hk
      split
      · exact h
      · split
        · exact h
        · intro x hx
          rcases List.mem_or_eq_of_mem_set hx with hx | rfl
          · exact h x hx
          · have := h (L.getD i default) (by rw [getD_getN hi]; exact List.getElem_mem hi)
            simp only
            exact ⟨this.1, by omega, this.2.2⟩
theorem cnt_cons (p : Ntd → Bool) (x : Ntd) (L : List Ntd) : cntP p (x :: L) = (if p x then 1 else 0) + cntP p L := by
  unfold cntP; rw [List.map_cons, List.sum_cons]
/-- Whoever came has one of six fates. -/
theorem cnt_fates (p : Ntd → Bool) : ∀ (L : List Ntd), (∀ x ∈ L, 0 ≤ x.2.2.1 ∧ x.2.2.1 ≤ 5) →
    cntP (fateP p 0) L + cntP (fateP p 1) L + cntP (fateP p 2) L + cntP (fateP p 3) L + cntP (fateP p 4) L + cntP (fateP p 5) L = cntP p L
  | [], _ => rfl
  | x :: t, h => by
    have ih := cnt_fates p t (fun y hy => h y (List.mem_cons_of_mem _ hy))
    have hx := h x List.mem_cons_self
    simp only [cnt_cons]
    rw [← ih]
    have e : (if fateP p 0 x = true then (1 : Int) else 0) + (if fateP p 1 x = true then 1 else 0) + (if fateP p 2 x = true then 1 else 0) + (if fateP p 3 x = true then 1 else 0) + (if fateP p 4 x = true then 1 else 0) + (if fateP p 5 x = true then 1 else 0) = if p x = true then 1 else 0 := by
      have h6 : x.fate = 0 ∨ x.fate = 1 ∨ x.fate = 2 ∨ x.fate = 3 ∨ x.fate = 4 ∨ x.fate = 5 := by show x.2.2.1 = 0 ∨ x.2.2.1 = 1 ∨ x.2.2.1 = 2 ∨ x.2.2.1 = 3 ∨ x.2.2.1 = 4 ∨ x.2.2.1 = 5; omega
      unfold fateP
      cases p x
      · simp
      · rcases h6 with e | e | e | e | e | e <;> rw [e] <;> simp
    omega
def sumI (l : List Int) : Int := l.sum
theorem sum_map_add {α : Type} (f g : α → Int) : ∀ l : List α, (l.map fun a => f a + g a).sum = (l.map f).sum + (l.map g).sum
  | [] => rfl
  | a :: t => by simp only [List.map_cons, List.sum_cons, sum_map_add f g t]; omega
theorem sum_map_zero {α : Type} (f : α → Int) : ∀ l : List α, (∀ a ∈ l, f a = 0) → (l.map f).sum = 0
  | [], _ => rfl
  | a :: t, h => by
    rw [List.map_cons, List.sum_cons, h a List.mem_cons_self, sum_map_zero f t (fun b hb => h b (List.mem_cons_of_mem _ hb))]; rfl
theorem sum_one (C : List Stm) (id : Int) (c : Int) (hn : C.Pairwise fun a b => a.1 ≠ b.1) (hm : ∃ s ∈ C, s.1 = id) : (C.map fun s => if id = s.1 then c else 0).sum = c := by
  induction C with
  | nil => obtain ⟨s, hs, _⟩ := hm; cases hs
  | cons a t ih =>
    rw [List.pairwise_cons] at hn
    rw [List.map_cons, List.sum_cons]
    by_cases e : id = a.1
    · rw [if_pos e, sum_map_zero _ t (fun b hb => if_neg (fun e2 => hn.1 b hb (e.symm.trans e2)))]; omega
    · rw [if_neg e, ih hn.2 (by
        obtain ⟨s, hs, h⟩ := hm
        rcases List.mem_cons.1 hs with rfl | hs
        · exact absurd h.symm e
        · exact ⟨s, hs, h⟩)]; omega
/-- What the streams' rows count is what the whole counts. -/
theorem cnt_streams (C : List Stm) (P : Ntd → Bool) (hn : C.Pairwise fun a b => a.1 ≠ b.1) : ∀ (L : List Ntd), (∀ x ∈ L, ∃ s ∈ C, s.1 = x.2.1.1) → (C.map fun s => cntP (fun x => pId s.1 x && P x) L).sum = cntP P L
  | [], _ => sum_map_zero _ C (fun _ _ => rfl)
  | x :: t, h => by
    have ih := cnt_streams C P hn t (fun y hy => h y (List.mem_cons_of_mem _ hy))
    rw [cnt_cons, ← ih]
    have e : (fun s : Stm => cntP (fun y => pId s.1 y && P y) (x :: t)) = fun s => (if x.2.1.1 = s.1 then (if P x = true then (1 : Int) else 0) else 0) + cntP (fun y => pId s.1 y && P y) t := by
      funext s
      rw [cnt_cons]
      congr 1
      unfold pId
      by_cases e1 : x.2.1.1 = s.1 <;> simp [e1]
    rw [e, sum_map_add, sum_one C x.2.1.1 _ hn (h x List.mem_cons_self)]
/-- What the first streams' rows count. -/
def cntK (C : List Stm) (P : Ntd → Bool) (L : List Ntd) (k : Nat) : Int := ((C.take k).map fun s => cntP (fun x => pId s.1 x && P x) L).sum
theorem cntK_zero (C : List Stm) (P : Ntd → Bool) (L : List Ntd) : cntK C P L 0 = 0 := rfl
theorem cntK_succ (C : List Stm) (P : Ntd → Bool) (L : List Ntd) (k : Nat) (h : k < C.length) : cntK C P L (k + 1) = cntK C P L k + cntP (fun x => pId (C.getD k default).1 x && P x) L := by
  unfold cntK
  rw [take_one C k h, List.map_append, List.sum_append]; simp
theorem cntK_all (C : List Stm) (P : Ntd → Bool) (L : List Ntd) (hn : C.Pairwise fun a b => a.1 ≠ b.1) (hg : GoodL C L) : cntK C P L C.length = cntP P L := by
  unfold cntK
  rw [List.take_length]
  exact cnt_streams C P hn L (fun x hx => (hg x hx).1)
theorem cntK_in (C : List Stm) (P : Ntd → Bool) (L : List Ntd) : ∀ (k : Nat), k ≤ C.length → 0 ≤ cntK C P L k ∧ cntK C P L k ≤ k * L.length
  | 0, _ => by simp [cntK_zero]
  | k + 1, h => by
    have ih := cntK_in C P L k (by omega)
    have c := cnt_in (fun x => pId (C.getD k default).1 x && P x) L
    rw [cntK_succ C P L k (by omega)]
    have e : ((k + 1 : Nat) : Int) * (L.length : Int) = (k : Int) * (L.length : Int) + (L.length : Int) := by rw [Int.natCast_add, Int.add_mul]; simp
    rw [e]; omega
/-- The open ones are those of fate 0. -/
theorem opens_len : ∀ (L : List Ntd), ((opensL L).length : Int) = cntP (fateP pAll 0) L
  | [] => rfl
  | x :: t => by
    have ih := opens_len t
    rw [cnt_cons, ← ih]
    unfold opensL fateP pAll
    by_cases e : x.2.2.1 = 0
    · rw [List.filter_cons_of_pos (by simpa using e)]
      simp [Ntd.fate, e]; omega
    · rw [List.filter_cons_of_neg (by simpa using e)]
      simp [Ntd.fate, e]
theorem pId_fate (id f : Int) : fateP (pId id) f = fun x => pId id x && fateP pAll f x := by funext x; simp [fateP, pAll]
theorem pId_all (id : Int) : pId id = fun x => pId id x && pAll x := by funext x; simp [pAll]
theorem Rep.upd {T : Tab} {C : List Stm} {L : List Ntd} {m : Heap} (h : Rep T C L m) {p : Nat} (ho : ¬ T.own C p) (hv : bOf T.v ≠ some p) (y : ABlk) : Rep T C L (hupd m p y) :=
  h.keep (fun c hc => hupd_ne (fun e => ho (by rw [← e]; exact hc))) (fun c hc => hupd_ne (fun e => hv (by rw [← e]; exact hc)))
theorem act_lst (A : List Act) (i : Nat) (h : i < A.length) (x : Act) (hx : A.getD i default = x) : (A.map encA).getD i .undef = .agg (encAc x) := by
  rw [← hx]; simp [List.getD_eq_getElem?_getD, h, encA]
theorem srt_len (l : List Int) : (srtI l).length = l.length := by unfold srtI; exact (List.mergeSort_perm _ _).length_eq
end Go.Proofs.YtdckcophbmnjjaaDoor
namespace Go.Proofs.YtdckcophbmnjjaaDoor
open Go Go.Proofs.YtdckcophbmnjjaaDoor.Ab
set_option maxRecDepth 100000
/-- What an outcome makes of a frame of its tag. -/
def upd1 (k at1 : Int) (x : Ntd) : Ntd := if (k < 1 ∨ k > 5) ∨ x.2.2.1 ≠ 0 ∨ (at1 < 0 ∨ at1 > 2251799813685248) then x else (x.1, x.2.1, k, at1)
theorem upd1_tag (k at1 : Int) (x : Ntd) : (upd1 k at1 x).1 = x.1 := by unfold upd1; split <;> rfl
/-- What the outcomes of the tags from lo up to hi make of a frame. -/
def updS (f : Int → Int × Int) (lo hi : Int) (x : Ntd) : Ntd := if lo ≤ x.1 ∧ x.1 < hi then upd1 (f x.1).1 (f x.1).2 x else x
theorem updS_tag (f : Int → Int × Int) (lo hi : Int) (x : Ntd) : (updS f lo hi x).1 = x.1 := by unfold updS; split; exact upd1_tag _ _ _; rfl
theorem tagIdx_map (g : Ntd → Ntd) (hg : ∀ x, (g x).1 = x.1) (L : List Ntd) (tag : Int) : tagIdx (L.map g) tag = tagIdx L tag := by
  unfold tagIdx
  rw [List.findIdx?_map]
  congr 1
  funext x
  simp [hg]
theorem fate_map (L : List Ntd) (hd : L.Pairwise fun a b => a.1 ≠ b.1) (tag k at1 : Int) : (fateF L tag k at1).2 = L.map fun x => if x.1 = tag then upd1 k at1 x else x := by
  unfold fateF
  cases ht : tagIdx L tag with
  | none =>
    simp only
    have hn : ∀ x ∈ L, x.1 ≠ tag := fun x hx e => by
      unfold tagIdx at ht
      rw [List.findIdx?_eq_none_iff] at ht
      have := ht x hx
      simp [e] at this
    conv => lhs; rw [← List.map_id L]
    exact List.map_congr_left fun x hx => by rw [if_neg (hn x hx)]; rfl
  | some i =>
    obtain ⟨hi, htag⟩ := tagIdx_lt ht
    rw [getD_getN hi] at htag
    simp only [getD_getN hi]
    have key : ∀ y, y = upd1 k at1 L[i] → L.set i y = L.map fun x => if x.1 = tag then upd1 k at1 x else x := by
      intro y hy
      refine List.ext_getElem (by simp) (fun j h1 h2 => ?_)
      rw [List.getElem_set, List.getElem_map]
      have hj : j < L.length := by simpa using h1
      split
      · rename_i e; subst e; rw [if_pos htag, hy]
      · rename_i e
        rw [if_neg]
        intro e2
        have hp := List.pairwise_iff_getElem.1 hd
        rcases Nat.lt_or_gt_of_ne e with h | h
        · exact hp i j hi hj h (htag.trans e2.symm)
        · exact hp j i hj hi h (e2.trans htag.symm)
    split
    · rename_i h; rw [← key L[i] (by unfold upd1; rw [if_pos (.inl h)])]; simp
    · rename_i h
      split
      · rename_i h2; rw [← key L[i] (by unfold upd1; rw [if_pos (.inr (.inl h2))])]; simp
      · rename_i h2
        split
        · rename_i h3; rw [← key L[i] (by unfold upd1; rw [if_pos (.inr (.inr h3))])]; simp
        · rename_i h3; exact key _ (by unfold upd1; rw [if_neg (fun hh => hh.elim h (fun hh => hh.elim h2 h3))])
theorem pair_map {L : List Ntd} (g : Ntd → Ntd) (hg : ∀ x, (g x).1 = x.1) (hd : L.Pairwise fun a b => a.1 ≠ b.1) : (L.map g).Pairwise fun a b => a.1 ≠ b.1 := by
  rw [List.pairwise_map]; exact hd.imp fun h => by rw [hg, hg]; exact h
theorem fate_up (L : List Ntd) (hd : L.Pairwise fun a b => a.1 ≠ b.1) (f : Int → Int × Int) (k : Int) (hk : 0 ≤ k) : (fateF (L.map (updS f 0 k)) k (f k).1 (f k).2).2 = L.map (updS f 0 (k + 1)) := by
  rw [fate_map _ (pair_map _ (updS_tag f 0 k) hd), List.map_map]
  refine List.map_congr_left fun x hx => ?_
  simp only [Function.comp, updS_tag]
  unfold updS
  by_cases e : x.1 = k
  · rw [if_pos e, if_neg (by omega), if_pos (by omega), e]
  · rw [if_neg e]
    by_cases h : 0 ≤ x.1 ∧ x.1 < k
    · rw [if_pos h, if_pos (by omega)]
    · rw [if_neg h, if_neg (by omega)]
theorem fate_down (L : List Ntd) (hd : L.Pairwise fun a b => a.1 ≠ b.1) (f : Int → Int × Int) (k n : Int) (hk : k ≤ n) : (fateF (L.map (updS f k n)) (k - 1) (f (k - 1)).1 (f (k - 1)).2).2 = L.map (updS f (k - 1) n) := by
  rw [fate_map _ (pair_map _ (updS_tag f k n) hd), List.map_map]
  refine List.map_congr_left fun x hx => ?_
  simp only [Function.comp, updS_tag]
  unfold updS
  by_cases e : x.1 = k - 1
  · rw [if_pos e, if_neg (by omega), if_pos (by omega), e]
  · rw [if_neg e]
    by_cases h : k ≤ x.1 ∧ x.1 < n
    · rw [if_pos h, if_pos (by omega)]
    · rw [if_neg h, if_neg (by omega)]
theorem updS_good {C : List Stm} {L : List Ntd} (h : GoodL C L) (f : Int → Int × Int) (lo hi : Int) : GoodL C (L.map (updS f lo hi)) := by
  intro x hx
  obtain ⟨y, hy, rfl⟩ := List.mem_map.1 hx
  have := h y hy
  unfold updS
  split
  · unfold upd1
    split
    · exact this
    · rename_i hn
      have hk : ¬ ((f y.1).1 < 1 ∨ (f y.1).1 > 5) := fun e => hn (.inl e)
      refine ⟨this.1, ?_, this.2.2⟩
      simp only
      omega
  · exact this
theorem updS_none (f : Int → Int × Int) (k : Int) (L : List Ntd) : L.map (updS f k k) = L := by
  conv => rhs; rw [← List.map_id L]
  exact List.map_congr_left fun x _ => by unfold updS; rw [if_neg (by omega)]; rfl
/-- What another table's call leaves. -/
theorem Rep.els {T U : Tab} {C : List Stm} {L : List Ntd} {m m' : Heap} (h : Rep T C L m) (hE : Else U C m m') (h1 : ∀ c, T.own C c → ¬ U.own C c) (h2 : ∀ c, bOf T.v = some c → ¬ U.own C c) : Rep T C L m' :=
  h.keep (fun c hc => hE c (h.owned hc) (h1 c hc)) (fun c hc => hE c (slm_some h.str hc) (h2 c hc))
theorem take_pair {C : List Stm} {L : List Ntd} {n : Int} (hd : L.Pairwise fun a b => a.1 ≠ b.1) (hn : ∀ x ∈ L, x.1 < n) (j : Jb) :
    ((takeF C L n j).2.Pairwise fun a b => a.1 ≠ b.1) ∧ ∀ x ∈ (takeF C L n j).2, x.1 < n + 1 := by
  have hb : ∀ x ∈ L, x.1 < n + 1 := fun x hx => by have := hn x hx; omega
  unfold takeF
  (repeat' split)
  · exact ⟨hd, hb⟩
  · exact ⟨hd, hb⟩
  · exact ⟨hd, hb⟩
  · refine ⟨List.pairwise_append.2 ⟨hd, List.pairwise_singleton _ _, fun a ha b hb => ?_⟩, fun x hx => ?_⟩
    · rw [List.mem_singleton.1 hb]; have := hn a ha; simp only; omega
    · rcases List.mem_append.1 hx with h | h
      · exact hb x h
      · rw [List.mem_singleton.1 h]; simp only; omega
end Go.Proofs.YtdckcophbmnjjaaDoor
