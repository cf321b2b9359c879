/- What is taken from a queue by its first one has identifiers that win the bus in that order. -/
import Derived.Test.YtcdhihoghkkahaaQ20
import Derived.Test.YtcdhihoghkkahaaLg6
import Derived.Test.YtcdhihoghkkahaaRows
import Derived.Test.YtcdhihoghkkahaaChecked
import Derived.WalkKit
import Derived.ProofKit
import Derived.OpenShut
import Derived.ShutString
import Derived.ChangeOld
import Derived.Below
import Derived.SizedLaws
import Derived.Carry
set_option linter.all false
namespace Go.Proofs.Ytcdhihoghkkahaa.topQueued
open Go.Proofs.Ytcdhihoghkkahaa
open Go.ChangeShapes Go.WideShapes Go.ChangeAt Go.RowKit
open Go.ChangeMaps (open_string shut_string)
open Go.Proofs.Ytcdhihoghkkahaa Go.Proofs.Ytcdhihoghkkahaa.Ab
set_option linter.unusedVariables false
theorem own : ownKnob Try.prog.godebug = none := by kernel_rfl
theorem laidOut : laidOutB Try.prog = true := by kernel_rfl
theorem kinds0 : fk Try.prog 12 42 = some [.int .i64, .int .i64, .int .i64, .int .i64] := by kernel_rfl
theorem cellsOf0 : Try.prog.cellsOf 42 = ([.int .i64, .int .i64, .int .i64, .int .i64] : List CK).length := by kernel_rfl
set_option maxRecDepth 100000 in
theorem lifted (os : Os) (started : os.Started) (H : Type) (enc : TypeId × Value → H) :
    ReturnsInHanded {} Try.checked os 9 .any (Rows.topQueuedSpec.pre6 enc Try.prog Try.f9 Rows.topQueuedRow.domain false) (Rows.topQueuedSpec.post enc Try.prog Try.f9 false true false false) := by
  refine returnsInHanded_of_change_sized (C := Try.checked) own started (by kernel_rfl) Try.func9
    (ChangeSpec.witness6 (enc := enc) (C := Try.checked) false ⟨#[], #[.slice none 0 0], []⟩ 8 (by kernel_rfl) (by kernel_rfl) (by kernel_rfl) (by kernel_rfl)) ?_
  intro W base args ds gs before hval0 hW hcnd hsz0 _
  have hval : ∀ (j : Nat) t v, Try.f9.params[j]? = some t → args[j]? = some v → Value.okWide Try.prog W .any base t v := hval0
  have hW' := hW
  obtain ⟨p, q, hA0, hV, rfl, hfz, hnd⟩ := hW
  have hA : DataW.TrodAll enc Try.prog W 0 (fun _ => true) true Try.f9.params.toList args.toList ds p := hA0
  rw [Try.params9] at hA hval
  obtain ⟨v0, vs0, d0, ds0, p0, q0, hargs0, rfl, rfl, h0, r0⟩ := trodAll_cons hA
  obtain ⟨rfl, rfl, rfl⟩ := trodAll_nil r0
  obtain rfl : args = #[v0] := by cases args; simp_all
  obtain ⟨rfl, rfl⟩ := trodVars_none hV
  have k0 := h0
  have lt0 : ∀ x ∈ p0, x.block < W.heap.size := by obtain ⟨m, hm⟩ := k0; exact DataW.trod_lt m _ _ _ hm
  obtain ⟨z0, o0, n0, x0⟩ := open_list (agg := true) Try.underlying34 kinds0 cellsOf0 (by decide) (by decide) (hval 0 34 v0 rfl rfl) h0
  clear hA0 hval0 hsz0
  obtain ⟨l, e0, hl, hn⟩ := list_of (agg := true) encL (fun _ => True) (fun z hz => by
    obtain ⟨x, s, rfl, u, t⟩ := okKs_int hz
    obtain ⟨y, s', rfl, u', t'⟩ := okKs_int t
    obtain ⟨y2, s2, rfl, u2, t2⟩ := okKs_int t'
    obtain ⟨y3, s3, rfl, u3, t3⟩ := okKs_int t2
    obtain rfl := okKs_nil t3
    exact ⟨(x, y, y2, y3), rfl, trivial⟩) z0 o0
  rw [e0] at x0
  have hcalls : Calls Try.prog 9 #[v0] W fun e w' => e = .returned (.bool true) ∧ Below W.heap.size W w' := by
    refine CallWP.calls en_9 (topQueued_spec _ l (by unfold maxLen at n0; omega)) rfl ?_
    intro i hi
    match i with
    | 0 => exact x0
  refine hcalls.mono fun e W' ⟨he, bel⟩ => ?_
  subst he
  exact ⟨_, rfl, _, _, _, [], _, [], hW', trodAll_mk1 (shut_bool Try.underlying4 _), (trodAll_cons_mk (Below.trod laidOut (by kernel_rfl) (of_decide_eq_true (by kernel_rfl)) k0 bel lt0) trodAll_mk0), rfl, bel.frame _, fun h => by cases h⟩
theorem over : Rows.topQueuedRow.holds Try.pinned (OpenSpec.ofChange Rows.topQueuedSpec) :=
  OpenClaim.holds_of_wide 9 Try.f9 rfl rfl rfl rfl rfl rfl rfl ⟨rfl, rfl, rfl, rfl, rfl⟩ rfl rfl rfl rfl rfl (by kernel_rfl) Try.func9 (by kernel_rfl)
    (of_decide_eq_true (by kernel_rfl)) (by unfold Func.isWrapper; first | (rw [if_pos (by decide +kernel)]; kernel_rfl) | (rw [if_neg (by decide +kernel)]; exact ⟨rfl, rfl⟩))
    (fun os started H enc _ => lifted os started H enc)
theorem proved : Rows.TopQueuedSaid := over
end Go.Proofs.Ytcdhihoghkkahaa.topQueued
namespace Go.Proofs.Ytcdhihoghkkahaa
open Go.Proofs.Ytcdhihoghkkahaa
/-- The row, under a short name, for the claim. -/
theorem topQueued_holds : Rows.TopQueuedSaid := topQueued.proved
end Go.Proofs.Ytcdhihoghkkahaa
