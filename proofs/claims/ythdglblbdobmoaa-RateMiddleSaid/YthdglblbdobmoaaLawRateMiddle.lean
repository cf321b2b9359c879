/- What all rates tell is the middle one: of three it is within the other two. -/
import Derived.Test.YthdglblbdobmoaaR20
import Derived.Test.YthdglblbdobmoaaAb20
import Derived.Test.YthdglblbdobmoaaAb23
import Derived.Test.YthdglblbdobmoaaRows
import Derived.Test.YthdglblbdobmoaaChecked
import Derived.WalkKit
import Derived.ProofKit
import Derived.OpenShut
import Derived.ShutString
import Derived.ChangeOld
import Derived.Below
import Derived.SizedLaws
import Derived.Carry
set_option linter.all false
namespace Go.Proofs.Ythdglblbdobmoaa.rateMiddle
open Go.Proofs.Ythdglblbdobmoaa
open Go.ChangeShapes Go.WideShapes Go.ChangeAt Go.RowKit
open Go.ChangeMaps (open_string shut_string)
open Go.Proofs.Ythdglblbdobmoaa Go.Proofs.Ythdglblbdobmoaa.Ab
set_option linter.unusedVariables false
theorem own : ownKnob Try.prog.godebug = none := by kernel_rfl
theorem laidOut : laidOutB Try.prog = true := by kernel_rfl
theorem kinds0 : fk Try.prog 12 53 = some [.int .u16, .int .u16, .int .u16] := by kernel_rfl
set_option maxRecDepth 100000 in
theorem lifted (os : Os) (started : os.Started) (H : Type) (enc : TypeId × Value → H) :
    ReturnsInHanded {} Try.checked os 7 .any (Rows.rateMiddleSpec.pre6 enc Try.prog Try.f7 Rows.rateMiddleRow.domain false) (Rows.rateMiddleSpec.post enc Try.prog Try.f7 false true false false) := by
  refine returnsInHanded_of_change_sized (C := Try.checked) own started (by kernel_rfl) Try.func7
    (ChangeSpec.witness6 (enc := enc) (C := Try.checked) false ⟨#[], #[.agg #[.int .u16 0, .int .u16 0, .int .u16 0]], []⟩ 8 (by kernel_rfl) (by kernel_rfl) (by kernel_rfl) (by kernel_rfl)) ?_
  intro W base args ds gs before hval0 hW hcnd hsz0 _
  have hval : ∀ (j : Nat) t v, Try.f7.params[j]? = some t → args[j]? = some v → Value.okWide Try.prog W .any base t v := hval0
  have hW' := hW
  obtain ⟨p, q, hA0, hV, rfl, hfz, hnd⟩ := hW
  have hA : DataW.TrodAll enc Try.prog W 0 (fun _ => true) true Try.f7.params.toList args.toList ds p := hA0
  rw [Try.params7] at hA hval
  obtain ⟨v0, vs0, d0, ds0, p0, q0, hargs0, rfl, rfl, h0, r0⟩ := trodAll_cons hA
  obtain ⟨rfl, rfl, rfl⟩ := trodAll_nil r0
  obtain rfl : args = #[v0] := by cases args; simp_all
  obtain ⟨rfl, rfl⟩ := trodVars_none hV
  have k0 := h0
  have lt0 : ∀ x ∈ p0, x.block < W.heap.size := by obtain ⟨m, hm⟩ := k0; exact DataW.trod_lt m _ _ _ hm
  obtain ⟨c0, rfl, o0⟩ := open_agg kinds0 (by rw [Try.underlying53]) (hval 0 53 v0 rfl rfl) h0
  clear hA0 hval0 hsz0
  obtain ⟨y0, s0, e0, u0, t0⟩ := okKs_int o0
  obtain ⟨y1, s1, e1, u1, t1⟩ := okKs_int t0
  obtain ⟨y2, s2, e2, u2, t2⟩ := okKs_int t1
  obtain rfl := okKs_nil t2
  subst e2
  subst e1
  subst e0
  have hcalls : Calls Try.prog 7 #[.agg #[.int .u16 y0, .int .u16 y1, .int .u16 y2]] W fun e w' => e = .returned (.bool true) ∧ Below W.heap.size W w' := by
    refine CallWP.calls en_7 (rateMiddle_spec _ y0 y1 y2 (by simpa [IntKind.min, IntKind.max, IntKind.signed, IntKind.bits] using u0) (by simpa [IntKind.min, IntKind.max, IntKind.signed, IntKind.bits] using u1) (by simpa [IntKind.min, IntKind.max, IntKind.signed, IntKind.bits] using u2)) rfl ?_
    intro i hi
    match i with
    | 0 => exact .agg _ _ rfl (fun j hj => by match j with
      | 0 => exact .int _ _
      | 1 => exact .int _ _
      | 2 => exact .int _ _)
  refine hcalls.mono fun e W' ⟨he, bel⟩ => ?_
  subst he
  exact ⟨_, rfl, _, _, _, [], _, [], hW', trodAll_mk1 (shut_bool Try.underlying4 _), (trodAll_cons_mk (Below.trod laidOut (by kernel_rfl) (of_decide_eq_true (by kernel_rfl)) k0 bel lt0) trodAll_mk0), rfl, bel.frame _, fun h => by cases h⟩
theorem over : Rows.rateMiddleRow.holds Try.pinned (OpenSpec.ofChange Rows.rateMiddleSpec) :=
  OpenClaim.holds_of_wide 7 Try.f7 rfl rfl rfl rfl rfl rfl rfl ⟨rfl, rfl, rfl, rfl, rfl⟩ rfl rfl rfl rfl rfl (by kernel_rfl) Try.func7 (by kernel_rfl)
    (of_decide_eq_true (by kernel_rfl)) (by unfold Func.isWrapper; first | (rw [if_pos (by decide +kernel)]; kernel_rfl) | (rw [if_neg (by decide +kernel)]; exact ⟨rfl, rfl⟩))
    (fun os started H enc _ => lifted os started H enc)
theorem proved : Rows.RateMiddleSaid := over
end Go.Proofs.Ythdglblbdobmoaa.rateMiddle
namespace Go.Proofs.Ythdglblbdobmoaa
open Go.Proofs.Ythdglblbdobmoaa
/-- The row, under a short name, for the claim. -/
theorem rateMiddle_holds : Rows.RateMiddleSaid := rateMiddle.proved
end Go.Proofs.Ythdglblbdobmoaa
