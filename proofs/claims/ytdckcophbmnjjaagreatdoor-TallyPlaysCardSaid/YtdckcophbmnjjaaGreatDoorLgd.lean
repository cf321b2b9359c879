/- From what is known of a law that reads a table to its row. -/
import Derived.Test.YtdckcophbmnjjaaGreatDoorLg6
import Derived.Lib.LaidTab
set_option linter.all false
namespace Go.Proofs.YtdckcophbmnjjaaGreatDoor.Ab
open Go Go.RowKit
theorem CallWP.callsG {P : Program} {G : Nat → AVal} {f : FuncId} {args : List AVal} {cargs : Array Value} {w : World} {b : Bool}
    (he : enters P f = true) (hg : GOk G (fun _ => none) w) (h : CallWP P G f args (fun _ => none) fun v m' => v = .bool b ∧ m' = fun _ => none) (hl : args.length = cargs.size)
    (hv : ∀ i, i < args.length → VRel (fun _ => none) w (args.getD i .undef) (cargs.getD i Go.undef)) : Calls P f cargs w fun e w' => e = .returned (.bool b) ∧ Below w.heap.size w w' := by
  have h : CallIn P G f args (fun _ => none) fun v m' => v = .bool b ∧ m' = fun _ => none := by
    rcases h with h | h
    · exact h
    · exfalso
      obtain ⟨x, v, m', h1, _⟩ := h w cargs (fun b x hb => by cases hb) hg hl hv
      rw [run_enters he] at h1
      cases h1
  refine (h.2 w cargs (fun b x hb => by cases hb) hg hl hv).mono ?_
  rintro e w' ⟨cv, v, m', rfl, ⟨rfl, rfl⟩, hr, hs, ext⟩
  cases hr
  exact ⟨rfl, ext.os, ext.tape, ext.output.1, ext.size, fun k hk => (ext.keep k hk rfl).1⟩
/-- What is known of one table. -/
def tabG (g : Nat) (k : IntKind) (zs : List Int) : Nat → AVal := fun i => if i = g then .rptr (zs.map (AVal.int k)) 0 else .undef
theorem tabG_at (g : Nat) (k : IntKind) (zs : List Int) : tabG g k zs g = .rptr (zs.map (AVal.int k)) 0 := by unfold tabG; rw [if_pos rfl]
theorem gOk_tab {P : Program} {W : World} {name : String} {k : IntKind} {zs : List Int} {g : Nat} (h : Lib.TabIs P W name k zs) (hg : P.globalNamed name = some g) (h0 : 0 < zs.length) : GOk (tabG g k zs) (fun _ => none) W := by
  intro i
  unfold tabG
  split
  · rename_i e; subst e
    have hlt : i < W.heap.size := by
      have hc := h.cell hg 0 h0
      unfold World.cell? at hc
      split at hc
      · rename_i hb
        exact (Array.getElem?_eq_some_iff.1 hb).1
      · cases hc
    refine .rptr _ 0 i 0 (fun j => .int k (zs.getD j 0)) rfl hlt (fun j hj => ?_) (fun j hj => ?_)
    · have := h.cell hg j (by simpa using hj)
      rw [Nat.zero_add]; exact this
    · have hj' : j < zs.length := by simpa using hj
      have : (zs.map (AVal.int k)).getD j .undef = .int k (zs.getD j 0) := by simp [List.getD_eq_getElem?_getD, hj']
      rw [this]; exact .int _ _
  · exact .undef _
end Go.Proofs.YtdckcophbmnjjaaGreatDoor.Ab
