/- From what is known of a law to its row. -/
import Derived.Test.YtcdhihoghkkahaaAb19
import Derived.Below
set_option linter.all false
namespace Go.Proofs.Ytcdhihoghkkahaa.Ab
open Go Go.RowKit

theorem CallWP.calls {P : Program} {f : FuncId} {args : List AVal} {cargs : Array Value} {w : World} {b : Bool}
    (he : enters P f = true) (h : CallWP P (fun _ => .undef) f args (fun _ => none) fun v m' => v = .bool b ∧ m' = fun _ => none) (hl : args.length = cargs.size)
    (hv : ∀ i, i < args.length → VRel (fun _ => none) w (args.getD i .undef) (cargs.getD i Go.undef)) : Calls P f cargs w fun e w' => e = .returned (.bool b) ∧ Below w.heap.size w w' := by
  have h : CallIn P (fun _ => .undef) f args (fun _ => none) fun v m' => v = .bool b ∧ m' = fun _ => none := by
    rcases h with h | h
    · exact h
    · exfalso
      obtain ⟨x, v, m', h1, _⟩ := h w cargs (fun b x hb => by cases hb) (fun g => .undef _) hl hv
      rw [run_enters he] at h1
      cases h1
  refine (h.2 w cargs (fun b x hb => by cases hb) (fun g => .undef _) hl hv).mono ?_
  rintro e w' ⟨cv, v, m', rfl, ⟨rfl, rfl⟩, hr, hs, ext⟩
  cases hr
  exact ⟨rfl, ext.os, ext.tape, ext.output.1, ext.size, fun k hk => (ext.keep k hk rfl).1⟩
end Go.Proofs.Ytcdhihoghkkahaa.Ab
