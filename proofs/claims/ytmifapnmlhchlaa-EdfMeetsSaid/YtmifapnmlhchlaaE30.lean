/- If streams pass the test of demand nothing is late: the plain law. -/
import Derived.Test.YtmifapnmlhchlaaX6
set_option linter.all false
namespace Go.Proofs.Ytmifapnmlhchlaa
open Go Go.Proofs.Ytmifapnmlhchlaa.Ab
open Go.Proofs (Try.prog)
/-- What jobs take together. -/
def sumC (X : List Wt) : Int := (X.map fun u => u.1.2.2.2).sum
theorem sumC_app (X Y : List Wt) : sumC (X ++ Y) = sumC X + sumC Y := by unfold sumC; rw [List.map_append, List.sum_append]
/-- The slot in which a job is due. -/
def slotT (n : Int) (u : Wt) : Int := u.1.2.2.1.tdiv n
/-- Since some time nothing but what is due by then is sent. -/
structure Since (n q B : Int) (A R X : List Wt) (t0 now : Int) : Prop where
  pos : 0 ≤ t0
  sub : ∃ Y, (X ++ (Y ++ R)).Perm A
  mem : ∀ u ∈ X, slotT n u ≤ q ∧ t0 ≤ kT u
  rest : ∀ u ∈ R, slotT n u ≤ q → t0 ≤ kT u
  low : now ≤ t0 + B + sumC X
theorem Sends.since {n q B : Int} {A : List Wt} (hA : ∀ u ∈ A, 0 ≤ u.1.2.2.2 ∧ u.1.2.2.2 ≤ B) {R : List Wt} {now : Int} {S : List (Wt × Int)} (h : Sends n R now S) :
    ∀ {X : List Wt} {t0 : Int}, 0 ≤ now → Since n q B A R X t0 now → ∀ x ∈ S, slotT n x.1 ≤ q → ∃ t1 X1, 0 ≤ t1 ∧ x.1 ∈ X1 ∧ (∃ Y, (X1 ++ Y).Perm A) ∧ (∀ u ∈ X1, slotT n u ≤ q ∧ t1 ≤ kT u) ∧ endOf x ≤ t1 + B + sumC X1 := by
  induction h with
  | nil => intro X t0 _ _ x hx; cases hx
  | @cons R R' now t w S hp ht hw hl hs ih =>
    intro X t0 hnow hI x hx hq
    obtain ⟨Y, hY⟩ := hI.sub
    have hwA : w ∈ A := hY.mem_iff.1 (List.mem_append_right _ (List.mem_append_right _ (hp.mem_iff.1 (by simp))))
    have hwc := hA w hwA
    have h0t : 0 ≤ t := by
      rcases ht with ⟨e, -⟩ | ⟨e, -⟩ <;> omega
    -- the state at the time at which the job is begun
    obtain ⟨X2, t2, hI2⟩ : ∃ X2 t2, Since n q B A R X2 t2 t := by
      rcases ht with ⟨e, -⟩ | ⟨e, -, h3⟩
      · exact ⟨X, t0, by rw [e]; exact hI⟩
      · refine ⟨[], t, ⟨h0t, ⟨X ++ Y, ?_⟩, by simp, fun u hu _ => h3 u hu, ?_⟩⟩
        · rw [List.nil_append, List.append_assoc]; exact hY
        · simp only [sumC, List.map_nil, List.sum_nil]; omega
    obtain ⟨Y2, hY2⟩ := hI2.sub
    by_cases hu : slotT n w ≤ q
    · have hI3 : Since n q B A R' (X2 ++ [w]) t2 (t + w.1.2.2.2) := by
        refine ⟨hI2.pos, ⟨Y2, ?_⟩, ?_, ?_, ?_⟩
        · refine List.Perm.trans ?_ hY2
          rw [List.append_assoc]
          refine List.Perm.append_left _ ?_
          refine List.Perm.trans ?_ (List.Perm.append_left _ hp)
          exact (List.perm_middle (a := w) (l₁ := Y2) (l₂ := R')).symm
        · intro u hu2
          rcases List.mem_append.1 hu2 with h | h
          · exact hI2.mem u h
          · rw [List.mem_singleton.1 h]
            exact ⟨hu, hI2.rest w (hp.mem_iff.1 (by simp)) hu⟩
        · exact fun u hu2 => hI2.rest u (hp.mem_iff.1 (List.mem_cons_of_mem _ hu2))
        · have := hI2.low
          rw [sumC_app]
          simp only [sumC, List.map_cons, List.map_nil, List.sum_cons, List.sum_nil] at this ⊢
          omega
      rcases List.mem_cons.1 hx with rfl | hx
      · obtain ⟨Y3, hY3⟩ := hI3.sub
        exact ⟨t2, X2 ++ [w], hI2.pos, by simp, ⟨_, hY3⟩, hI3.mem, hI3.low⟩
      · exact ih (by omega) hI3 x hx hq
    · have hI3 : Since n q B A R' [] (t + 1) (t + w.1.2.2.2) := by
        refine ⟨by omega, ⟨X2 ++ (Y2 ++ [w]), ?_⟩, by simp, ?_, ?_⟩
        · rw [List.nil_append]
          refine List.Perm.trans ?_ hY2
          rw [List.append_assoc]
          refine List.Perm.append_left _ ?_
          rw [List.append_assoc]
          exact List.Perm.append_left _ hp
        · intro u hu2 hs2
          have hur : u ∈ R := hp.mem_iff.1 (List.mem_cons_of_mem _ hu2)
          have hk : ¬ kT u ≤ t := by
            intro hk
            have := hl u hur hk
            rw [ltW_false] at this
            apply this
            left; left
            unfold slotT at hs2 hu
            omega
          omega
        · simp only [sumC, List.map_nil, List.sum_nil]; omega
      rcases List.mem_cons.1 hx with rfl | hx
      · exact absurd hq hu
      · exact ih (by omega) hI3 x hx hq
/-- A frame that came: of which stream, and when. -/
abbrev Tg := Nat × Int
def jobT (C : List Stm) (a : Tg) : Jb := ((C.getD a.1 default).1, a.2, if (C.getD a.1 default).2.2.1 = 1 then a.2 + (C.getD a.1 default).2.2.2.2.1 else 2251799813685248, costS (C.getD a.1 default))
def CameT (C : List Stm) (T : List Tg) : Prop := (∀ a ∈ T, a.1 < C.length ∧ 0 ≤ a.2 ∧ a.2 + (C.getD a.1 default).2.2.2.2.1 ≤ 9000) ∧ T.Pairwise fun a b => a.1 = b.1 → a.2 + (C.getD a.1 default).2.2.2.1 ≤ b.2
theorem spaced (P lo hi : Int) : ∀ (l : List Int), l.Pairwise (fun a b => a + P ≤ b) → (∀ a ∈ l, lo ≤ a ∧ a ≤ hi) → ∀ m : Nat, l.length = m + 1 → lo + (m : Int) * P ≤ hi
  | [], _, _, m, h => by simp at h
  | [a], _, ha, m, h => by
    have : m = 0 := by simpa using h.symm
    subst this
    have := ha a (by simp)
    simp; omega
  | a :: b :: l, hp, ha, m, h => by
    obtain ⟨k, rfl⟩ : ∃ k, m = k + 1 := ⟨l.length, by simp at h; omega⟩
    have hp' := List.pairwise_cons.1 hp
    have := spaced P (lo + P) hi (b :: l) hp'.2 (fun x hx => ⟨by have h1 := hp'.1 x hx; have h2 := (ha a (by simp)).1; omega, (ha x (List.mem_cons_of_mem _ hx)).2⟩) k (by simpa using h)
    have e : ((k + 1 : Nat) : Int) * P = (k : Int) * P + P := by rw [Int.natCast_add, Int.add_mul]; simp
    rw [e]; omega
theorem sum_filter_lt (f : Tg → Int) (U : List Tg) (K : Nat) : ((U.filter fun a => decide (a.1 < K + 1)).map f).sum = ((U.filter fun a => decide (a.1 < K)).map f).sum + ((U.filter fun a => decide (a.1 = K)).map f).sum := by
  induction U with
  | nil => simp
  | cons a t ih =>
    rcases Nat.lt_trichotomy a.1 K with h | h | h
    · rw [List.filter_cons_of_pos (by simpa using by omega), List.filter_cons_of_pos (by simpa using h), List.filter_cons_of_neg (by simpa using by omega), List.map_cons, List.map_cons, List.sum_cons, List.sum_cons, ih]; omega
    · rw [List.filter_cons_of_pos (by simpa using by omega), List.filter_cons_of_neg (by simpa using by omega), List.filter_cons_of_pos (by simpa using h), List.map_cons, List.map_cons, List.sum_cons, List.sum_cons, ih]; omega
    · rw [List.filter_cons_of_neg (by simpa using by omega), List.filter_cons_of_neg (by simpa using by omega), List.filter_cons_of_neg (by simpa using by omega), ih]
theorem sum_const (f : Tg → Int) (c : Int) : ∀ U : List Tg, (∀ a ∈ U, f a = c) → (U.map f).sum = (U.length : Int) * c
  | [], _ => by simp
  | a :: t, h => by
    rw [List.map_cons, List.sum_cons, sum_const f c t (fun x hx => h x (List.mem_cons_of_mem _ hx)), h a (by simp), List.length_cons, Int.natCast_add, Int.add_mul]
    simp; omega
/-- What comes and is due within a span is no more than the demand. -/
theorem dem_sum {C : List Stm} {T : List Tg} (hT : CameT C T) (hC : ∀ s ∈ C, rightS s = 0) {n lo D : Int} (U : List Tg) (hU : U.Sublist T) (hu : ∀ a ∈ U, (C.getD a.1 default).2.2.1 = 1 ∧ lo ≤ a.2 ∧ a.2 + (C.getD a.1 default).2.2.2.2.1 ≤ D + n - 1) :
    (U.map fun a => costS (C.getD a.1 default)).sum ≤ demF C (D - lo) n := by
  have key : ∀ K, K ≤ C.length → ((U.filter fun a => decide (a.1 < K)).map fun a => costS (C.getD a.1 default)).sum ≤ demF (C.take K) (D - lo) n := by
    intro K
    induction K with
    | zero => intro _; rw [List.filter_eq_nil_iff.2 (fun a _ => by simp)]; simp [demF]
    | succ K ih =>
      intro hK
      rw [sum_filter_lt, dem_take C _ _ K (by omega)]
      have h1 := ih (by omega)
      obtain ⟨s, hs⟩ : ∃ s, C.getD K default = s := ⟨_, rfl⟩
      have hsr := hC s (by rw [← hs]; exact getD_mem C K (by omega))
      have hs0 := rightS_zero.1 hsr
      have hcs := costS_in s
      rw [sum_const _ (costS s) (U.filter fun a => decide (a.1 = K)) (fun a ha => by have := (List.mem_filter.1 ha).2; simp only [decide_eq_true_eq] at this; rw [this, hs]), hs]
      obtain ⟨V, hV⟩ : ∃ V, V = U.filter fun a => decide (a.1 = K) := ⟨_, rfl⟩
      rw [← hV]
      have h2 : (V.length : Int) * costS s ≤ demS s (D - lo) n := by
        rcases Nat.eq_zero_or_pos V.length with h0 | h0
        · rw [h0]
          unfold demS
          split
          · rename_i h
            have := slot_in h.2 (show 1 ≤ s.2.2.2.1 by omega)
            have := Int.mul_nonneg (show 0 ≤ (D - lo + n - 1 - s.2.2.2.2.1).tdiv s.2.2.2.1 + 1 by omega) hcs.1
            simpa using this
          · simp
        · obtain ⟨m, hm⟩ : ∃ m, V.length = m + 1 := ⟨V.length - 1, by omega⟩
          have hVm : ∀ a ∈ V, a ∈ U ∧ a.1 = K := fun a ha => by
            rw [hV] at ha
            have := List.mem_filter.1 ha
            exact ⟨this.1, by simpa using this.2⟩
          have hVs : V.Sublist T := by rw [hV]; exact List.filter_sublist.trans hU
          have hpw : (V.map Prod.snd).Pairwise fun a b => a + s.2.2.2.1 ≤ b := by
            rw [List.pairwise_map]
            refine List.Pairwise.imp_of_mem ?_ (hT.2.sublist hVs)
            intro a b ha hb h
            have ea := (hVm a ha).2
            have eb := (hVm b hb).2
            have := h (by rw [ea, eb])
            rwa [ea, hs] at this
          have hin : ∀ a ∈ V.map Prod.snd, lo ≤ a ∧ a ≤ D + n - 1 - s.2.2.2.2.1 := by
            intro a ha
            obtain ⟨b, hb, rfl⟩ := List.mem_map.1 ha
            have h3 := hu b (hVm b hb).1
            rw [(hVm b hb).2, hs] at h3
            omega
          have hsp := spaced s.2.2.2.1 lo (D + n - 1 - s.2.2.2.2.1) _ hpw hin m (by rw [List.length_map]; exact hm)
          obtain ⟨a, ha⟩ : ∃ a, a ∈ V := List.exists_mem_of_length_pos h0
          have hcl := (hu a (hVm a ha).1).1
          rw [(hVm a ha).2, hs] at hcl
          have hmp : 0 ≤ (m : Int) * s.2.2.2.1 := Int.mul_nonneg (by omega) (by omega)
          have hge : 0 ≤ D - lo + n - 1 - s.2.2.2.2.1 := by omega
          unfold demS
          rw [if_pos ⟨hcl, hge⟩]
          refine Int.mul_le_mul_of_nonneg_right ?_ hcs.1
          rw [hm, Int.tdiv_eq_ediv_of_nonneg hge]
          have : (m : Int) ≤ (D - lo + n - 1 - s.2.2.2.2.1) / s.2.2.2.1 := (Int.le_ediv_iff_mul_le (by omega)).2 (by omega)
          simp; omega
      omega
  have := key C.length (Nat.le_refl _)
  rw [List.take_length] at this
  rwa [List.filter_eq_self.2 (fun a ha => by simpa using (hT.1 a (hU.subset ha)).1)] at this
theorem perm_sum {L M : List Int} (h : L.Perm M) : L.sum = M.sum := by
  induction h with
  | nil => rfl
  | cons x _ ih => rw [List.sum_cons, List.sum_cons, ih]
  | swap x y l => simp only [List.sum_cons]; omega
  | trans _ _ h1 h2 => rw [h1, h2]
theorem sum_le_perm {X Y A : List Wt} (p : Wt → Bool) (h : (X ++ Y).Perm A) (hX : ∀ u ∈ X, p u = true) (hA : ∀ u ∈ A, 0 ≤ u.1.2.2.2) : sumC X ≤ sumC (A.filter p) := by
  have e1 : X.filter p = X := List.filter_eq_self.2 hX
  have h2 := h.filter p
  rw [List.filter_append, e1] at h2
  have h3 : sumC (X ++ Y.filter p) = sumC (A.filter p) := by
    unfold sumC
    exact perm_sum (h2.map _)
  rw [← h3, sumC_app]
  have : ∀ Z : List Wt, (∀ u ∈ Z, 0 ≤ u.1.2.2.2) → 0 ≤ sumC Z := by
    intro Z
    induction Z with
    | nil => intro _; simp [sumC]
    | cons z t ih =>
      intro hz
      have a := hz z (by simp)
      have b := ih fun u hu => hz u (List.mem_cons_of_mem _ hu)
      simp only [sumC, List.map_cons, List.sum_cons] at b ⊢
      omega
  have := this (Y.filter p) fun u hu => hA u (h.mem_iff.1 (List.mem_append_right _ (List.mem_filter.1 hu).1))
  omega
end Go.Proofs.Ytmifapnmlhchlaa
