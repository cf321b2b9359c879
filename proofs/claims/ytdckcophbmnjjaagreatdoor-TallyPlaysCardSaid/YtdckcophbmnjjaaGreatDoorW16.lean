/- What is summed up over a table's rows. -/
import Derived.Test.YtdckcophbmnjjaaGreatDoorW15
set_option linter.all false
namespace Go.Proofs.YtdckcophbmnjjaaGreatDoor
open Go Go.Proofs.YtdckcophbmnjjaaGreatDoor.Ab
set_option maxRecDepth 100000
theorem takeF_len (C : List Stm) (L : List Ntd) (tag : Int) (j : Jb) : (takeF C L tag j).2.length ≤ L.length + 1 := by
  unfold takeF; (repeat' split) <;> simp
theorem fateF_len (L : List Ntd) (tag k at1 : Int) : (fateF L tag k at1).2.length = L.length := by
  unfold fateF; (repeat' split) <;> simp
theorem takeF_good {C : List Stm} {L : List Ntd} (tag : Int) (j : Jb) (h : GoodL C L) : GoodL C (takeF C L tag j).2 := by
  unfold takeF
  split
  · exact h
  · split
    · exact h
    · rename_i hf
      split
      · exact h
      · rename_i hj
        intro x hx
        rcases List.mem_append.1 hx with hx | hx
        · exact h x hx
        · rw [List.mem_singleton.1 hx]
          simp only
          rcases findF_cases C j.1 with ⟨e, _⟩ | ⟨i, e, hi, hid⟩
          · rw [e] at hf; exact absurd (by decide) hf
          · have hm := getD_mem C i hi
            rw [e, Int.toNat_natCast] at hj
            refine ⟨⟨_, hm, hid⟩, ⟨by decide, by decide⟩, ?_⟩
            have h2 : (jobS (C.getD i default) j.2.1).2 = 0 := Decidable.byContradiction fun hc => hj (.inl hc)
            have h3 : (jobS (C.getD i default) j.2.1).1 = j := Decidable.byContradiction fun hc => hj (.inr hc)
            unfold jobS at h2 h3
            by_cases hr : rightS (C.getD i default) = 0
            · rw [if_pos hr] at h2 h3
              by_cases hb : 0 ≤ j.2.1 ∧ j.2.1 ≤ 1125899906842624
              · rw [if_pos hb] at h3
                have hz := (rightS_zero.1 hr).2.2.2.2
                rw [← h3]
                simp only
                omega
              · rw [if_neg hb] at h2; exact absurd h2 (by decide)
            · rw [if_neg hr] at h2; exact absurd h2 hr
theorem fateF_good {C : List Stm} {L : List Ntd} (tag k at1 : Int) (h : GoodL C L) : GoodL C (fateF L tag k at1).2 := by
  unfold fateF
  split
  · exact h
  · rename_i i e
    have hi := (tagIdx_lt e).1
    split
    · exact h
    · rename_i hk
      split
      · exact h
      · split
        · exact h
        · intro x hx
          rcases List.mem_or_eq_of_mem_set hx with hx | rfl
          · exact h x hx
          · have := h (L.getD i default) (by rw [getD_getN hi]; exact List.getElem_mem hi)
            simp only
            exact ⟨this.1, by omega, this.2.2⟩
def sumI (l : List Int) : Int := l.sum
/-- What the first streams' rows count. -/
def cntK (C : List Stm) (P : Ntd → Bool) (L : List Ntd) (k : Nat) : Int := ((C.take k).map fun s => cntP (fun x => pId s.1 x && P x) L).sum
theorem act_lst (A : List Act) (i : Nat) (h : i < A.length) (x : Act) (hx : A.getD i default = x) : (A.map encA).getD i .undef = .agg (encAc x) := by
  rw [← hx]; simp [List.getD_eq_getElem?_getD, h, encA]
end Go.Proofs.YtdckcophbmnjjaaGreatDoor
