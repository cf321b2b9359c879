/- Whatever happens, counts can be, and a good frame makes no mode worse, a failed one none better: for every list. -/
import Derived.Test.YtcdhihoghkkahaaCt4
import Derived.Test.YtcdhihoghkkahaaAb20
import Derived.Test.YtcdhihoghkkahaaAb23
import Derived.Test.YtcdhihoghkkahaaRows
import Derived.Test.YtcdhihoghkkahaaChecked
import Derived.WalkKit
import Derived.ProofKit
import Derived.OpenShut
import Derived.ShutString
import Derived.ChangeOld
import Derived.Below
import Derived.SizedLaws
import Derived.Carry
set_option linter.all false
namespace Go.Proofs.Ytcdhihoghkkahaa.countStays
open Go.Proofs.Ytcdhihoghkkahaa
open Go.ChangeShapes Go.WideShapes Go.ChangeAt Go.RowKit
open Go.ChangeMaps (open_string shut_string)
open Go.Proofs.Ytcdhihoghkkahaa Go.Proofs.Ytcdhihoghkkahaa.Ab
set_option linter.unusedVariables false
theorem own : ownKnob Try.prog.godebug = none := by kernel_rfl
theorem laidOut : laidOutB Try.prog = true := by kernel_rfl
theorem kinds0 : fk Try.prog 12 5 = some [.int .u8] := by kernel_rfl
theorem cellsOf0 : Try.prog.cellsOf 5 = ([.int .u8] : List CK).length := by kernel_rfl
set_option maxRecDepth 100000 in
theorem lifted (os : Os) (started : os.Started) (H : Type) (enc : TypeId × Value → H) :
    ReturnsInHanded {} Try.checked os 4 .any (Rows.countStaysSpec.pre6 enc Try.prog Try.f4 Rows.countStaysRow.domain false) (Rows.countStaysSpec.post enc Try.prog Try.f4 false true false false) := by
  refine returnsInHanded_of_change_sized (C := Try.checked) own started (by kernel_rfl) Try.func4
    (ChangeSpec.witness6 (enc := enc) (C := Try.checked) false ⟨#[], #[.slice none 0 0], []⟩ 8 (by kernel_rfl) (by kernel_rfl) (by kernel_rfl) (by kernel_rfl)) ?_
  intro W base args ds gs before hval0 hW hcnd hsz0 _
  have hval : ∀ (j : Nat) t v, Try.f4.params[j]? = some t → args[j]? = some v → Value.okWide Try.prog W .any base t v := hval0
  have hW' := hW
  obtain ⟨p, q, hA0, hV, rfl, hfz, hnd⟩ := hW
  have hA : DataW.TrodAll enc Try.prog W 0 (fun _ => true) true Try.f4.params.toList args.toList ds p := hA0
  rw [Try.params4] at hA hval
  obtain ⟨v0, vs0, d0, ds0, p0, q0, hargs0, rfl, rfl, h0, r0⟩ := trodAll_cons hA
  obtain ⟨rfl, rfl, rfl⟩ := trodAll_nil r0
  obtain rfl : args = #[v0] := by cases args; simp_all
  obtain ⟨rfl, rfl⟩ := trodVars_none hV
  have k0 := h0
  have lt0 : ∀ x ∈ p0, x.block < W.heap.size := by obtain ⟨m, hm⟩ := k0; exact DataW.trod_lt m _ _ _ hm
  obtain ⟨z0, o0, n0, x0⟩ := open_list (agg := false) Try.underlying31 kinds0 cellsOf0 (by decide) (by decide) (hval 0 31 v0 rfl rfl) h0
  clear hA0 hval0 hsz0
  obtain ⟨l, e0, hl, hn⟩ := list_of (agg := false) (fun x : Int => .int .u8 x) (fun x => 0 ≤ x ∧ x ≤ 255) (fun z hz => by
    obtain ⟨n, r, rfl, hw, h2⟩ := okKs_int hz
    obtain rfl := okKs_nil h2
    exact ⟨n, rfl, by simpa [IntKind.min, IntKind.max, IntKind.signed, IntKind.bits] using hw⟩) z0 o0
  rw [e0] at x0
  have hcalls : Calls Try.prog 4 #[v0] W fun e w' => e = .returned (.bool true) ∧ Below W.heap.size W w' := by
    refine CallWP.calls (countStays_spec _ l (by unfold maxLen at n0; omega) hl _) rfl ?_
    intro i hi
    match i with
    | 0 => exact x0
  refine hcalls.mono fun e W' ⟨he, bel⟩ => ?_
  subst he
  exact ⟨_, rfl, _, _, _, [], _, [], hW', trodAll_mk1 (shut_bool Try.underlying4 _), (trodAll_cons_mk (Below.trod laidOut (by kernel_rfl) (of_decide_eq_true (by kernel_rfl)) k0 bel lt0) trodAll_mk0), rfl, bel.frame _, fun h => by cases h⟩
theorem over : Rows.countStaysRow.holds Try.pinned (OpenSpec.ofChange Rows.countStaysSpec) :=
  OpenClaim.holds_of_wide 4 Try.f4 rfl rfl rfl rfl rfl rfl rfl ⟨rfl, rfl, rfl, rfl, rfl⟩ rfl rfl rfl rfl rfl (by kernel_rfl) Try.func4 (by kernel_rfl)
    (of_decide_eq_true (by kernel_rfl)) (by unfold Func.isWrapper; first | (rw [if_pos (by decide +kernel)]; kernel_rfl) | (rw [if_neg (by decide +kernel)]; exact ⟨rfl, rfl⟩))
    (fun os started H enc _ => lifted os started H enc)
theorem proved : Rows.CountStaysSaid := over
end Go.Proofs.Ytcdhihoghkkahaa.countStays
namespace Go.Proofs.Ytcdhihoghkkahaa
open Go.Proofs.Ytcdhihoghkkahaa
/-- The row, under a short name, for the claim. -/
theorem countStays_holds : Rows.CountStaysSaid := countStays.proved
end Go.Proofs.Ytcdhihoghkkahaa
