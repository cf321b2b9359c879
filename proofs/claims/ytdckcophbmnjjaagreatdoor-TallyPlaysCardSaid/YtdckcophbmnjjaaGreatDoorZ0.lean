/- What a function answers; numbers from any. -/
import Derived.Test.YtdckcophbmnjjaaGreatDoorFa
import Derived.Test.YtdckcophbmnjjaaGreatDoorSh
import Derived.Test.YtdckcophbmnjjaaGreatDoorLg6
import Derived.Test.YtdckcophbmnjjaaGreatDoorLg9
import Derived.Test.YtdckcophbmnjjaaGreatDoorLga
set_option linter.all false
namespace Go.Proofs.YtdckcophbmnjjaaGreatDoor
open Go Go.Proofs.YtdckcophbmnjjaaGreatDoor.Ab
open Go.Proofs (Tryz.prog)
set_option maxRecDepth 100000
/-- What a function answers that leaves the memory as it was. -/
def Ans (G : Nat → AVal) (f : FuncId) (args : List AVal) (v : AVal) : Prop := ∀ m, CallWP Tryz.prog G f args m fun v' m' => v' = v ∧ m' = m
theorem subTrans {a b c : Heap} (h : Sub a b) (k : Sub b c) : Sub a c := fun x y hx => k x y (h x y hx)
theorem slot_in {d n : Int} (h : 0 ≤ d) (hn : 1 ≤ n) : 0 ≤ d.tdiv n ∧ d.tdiv n ≤ d := by
  rw [Int.tdiv_eq_ediv_of_nonneg h]
  exact ⟨Int.ediv_nonneg h (by omega), Int.ediv_le_self n h⟩
def partF (n b : Int) : Int := if n < 0 then 0 else n.tmod b
theorem partF_in (n b : Int) (hb : 0 < b) : 0 ≤ partF n b ∧ partF n b < b := by
  unfold partF; split
  · omega
  · exact ⟨Int.tmod_nonneg b (by omega), Int.tmod_lt_of_pos n hb⟩
theorem slm_some {α : Type} {enc : α → List AVal} {sz : Nat} {C : List α} {v : AVal} {m : Heap} (h : SlM enc sz C v m) {c : Nat} (hc : bOf v = some c) : m c ≠ none := by
  rcases h with ⟨rfl, _⟩ | ⟨c', blk, hb', pre, post, N', cap, rfl, _⟩
  · cases hc
  · simp only [bOf, Option.some.injEq] at hc; subst hc; rw [hb']; simp
theorem slm_slice {α : Type} {enc : α → List AVal} {sz : Nat} {C : List α} {b o l cap : Nat} {m : Heap} (h : SlM enc sz C (.slice b o l cap) m) : ∃ pre post N, o = pre.length ∧ l = C.length ∧ m b = some (.cells (pre ++ (C.flatMap enc ++ post)) N) ∧ pre.length + cap * sz ≤ N ∧ C.length ≤ cap := by
  rcases h with ⟨h, _⟩ | ⟨b', blk, hb, pre, post, N, cap', h, rfl, h1, h2⟩
  · cases h
  · injection h with e1 e2 e3 e4
    subst e1 e2 e3 e4
    exact ⟨pre, post, N, rfl, rfl, hb, h1, h2⟩
abbrev encN (x : Int) : List AVal := [.int .i64 x]
theorem encN_len (x : Int) : (encN x).length = 1 := rfl
theorem encN_map (C : List Int) : C.flatMap encN = C.map (AVal.int .i64) := by
  induction C with
  | nil => rfl
  | cons x t ih => rw [List.flatMap_cons, ih]; rfl
end Go.Proofs.YtdckcophbmnjjaaGreatDoor
