/- Whatever samples come: program and document take the same ones, and tell the same. -/
import Derived.Test.YthdglblbdobmoaaR19
import Derived.Test.YthdglblbdobmoaaAb20
import Derived.Test.YthdglblbdobmoaaAb23
import Derived.Test.YthdglblbdobmoaaRows
import Derived.Test.YthdglblbdobmoaaChecked
import Derived.WalkKit
import Derived.ProofKit
import Derived.OpenShut
import Derived.ShutString
import Derived.ChangeOld
import Derived.Below
import Derived.SizedLaws
import Derived.Carry
set_option linter.all false
namespace Go.Proofs.Ythdglblbdobmoaa.ratePlays
open Go.Proofs.Ythdglblbdobmoaa
open Go.ChangeShapes Go.WideShapes Go.ChangeAt Go.RowKit
open Go.ChangeMaps (open_string shut_string)
open Go.Proofs.Ythdglblbdobmoaa Go.Proofs.Ythdglblbdobmoaa.Ab
set_option linter.unusedVariables false
theorem own : ownKnob Try.prog.godebug = none := by kernel_rfl
theorem laidOut : laidOutB Try.prog = true := by kernel_rfl
theorem kinds2 : fk Try.prog 12 23 = some [.int .i64, .int .i64] := by kernel_rfl
theorem cellsOf2 : Try.prog.cellsOf 23 = ([.int .i64, .int .i64] : List CK).length := by kernel_rfl
set_option maxRecDepth 100000 in
theorem lifted (os : Os) (started : os.Started) (H : Type) (enc : TypeId × Value → H) :
    ReturnsInHanded {} Try.checked os 4 .any (Rows.ratePlaysSpec.pre6 enc Try.prog Try.f4 Rows.ratePlaysRow.domain false) (Rows.ratePlaysSpec.post enc Try.prog Try.f4 false true false false) := by
  refine returnsInHanded_of_change_sized (C := Try.checked) own started (by kernel_rfl) Try.func4
    (ChangeSpec.witness6 (enc := enc) (C := Try.checked) false ⟨#[], #[.int .i64 0, .int .i64 0, .slice none 0 0], []⟩ 8 (by kernel_rfl) (by kernel_rfl) (by kernel_rfl) (by kernel_rfl)) ?_
  intro W base args ds gs before hval0 hW hcnd hsz0 _
  have hval : ∀ (j : Nat) t v, Try.f4.params[j]? = some t → args[j]? = some v → Value.okWide Try.prog W .any base t v := hval0
  have hW' := hW
  obtain ⟨p, q, hA0, hV, rfl, hfz, hnd⟩ := hW
  have hA : DataW.TrodAll enc Try.prog W 0 (fun _ => true) true Try.f4.params.toList args.toList ds p := hA0
  rw [Try.params4] at hA hval
  obtain ⟨v0, vs0, d0, ds0, p0, q0, hargs0, rfl, rfl, h0, r0⟩ := trodAll_cons hA
  obtain ⟨v1, vs1, d1, ds1, p1, q1, hargs1, rfl, rfl, h1, r1⟩ := trodAll_cons r0
  obtain ⟨v2, vs2, d2, ds2, p2, q2, hargs2, rfl, rfl, h2, r2⟩ := trodAll_cons r1
  obtain ⟨rfl, rfl, rfl⟩ := trodAll_nil r2
  obtain rfl : args = #[v0, v1, v2] := by cases args; simp_all
  obtain ⟨rfl, rfl⟩ := trodVars_none hV
  obtain ⟨a0, rfl, rfl, rfl, w0⟩ := open_int Try.underlying2 (hval 0 2 v0 rfl rfl) h0
  obtain ⟨a1, rfl, rfl, rfl, w1⟩ := open_int Try.underlying3 (hval 1 3 v1 rfl rfl) h1
  have k2 := h2
  have lt2 : ∀ x ∈ p2, x.block < W.heap.size := by obtain ⟨m, hm⟩ := k2; exact DataW.trod_lt m _ _ _ hm
  obtain ⟨z2, o2, n2, x2⟩ := open_list (agg := true) Try.underlying31 kinds2 cellsOf2 (by decide) (by decide) (hval 2 31 v2 rfl rfl) h2
  clear hA0 hval0 hsz0
  obtain ⟨l, e2, hl, hn⟩ := list_of (agg := true) encS (fun s => I64 s.1 ∧ I64 s.2) (fun z hz => by
    obtain ⟨x, s, rfl, u, t⟩ := okKs_int hz
    obtain ⟨y, s', rfl, u', t'⟩ := okKs_int t
    obtain rfl := okKs_nil t'
    exact ⟨(x, y), rfl, i64_of u, i64_of u'⟩) z2 o2
  rw [e2] at x2
  have hcalls : Calls Try.prog 4 #[.int .i64 a0, .int .i64 a1, v2] W fun e w' => e = .returned (.bool true) ∧ Below W.heap.size W w' := by
    refine CallWP.calls en_4 (ratePlays_spec _ a0 a1 l (i64_wf w0) (i64_wf w1) hl (by unfold maxLen at n2; omega)) rfl ?_
    intro i hi
    match i with
    | 0 => exact .int _ _
    | 1 => exact .int _ _
    | 2 => exact x2
  refine hcalls.mono fun e W' ⟨he, bel⟩ => ?_
  subst he
  exact ⟨_, rfl, _, _, _, [], _, [], hW', trodAll_mk1 (shut_bool Try.underlying4 _), (trodAll_cons_mk (shut_int Try.underlying2 w0) (trodAll_cons_mk (shut_int Try.underlying3 w1) (trodAll_cons_mk (Below.trod laidOut (by kernel_rfl) (of_decide_eq_true (by kernel_rfl)) k2 bel lt2) trodAll_mk0))), rfl, bel.frame _, fun h => by cases h⟩
theorem over : Rows.ratePlaysRow.holds Try.pinned (OpenSpec.ofChange Rows.ratePlaysSpec) :=
  OpenClaim.holds_of_wide 4 Try.f4 rfl rfl rfl rfl rfl rfl rfl ⟨rfl, rfl, rfl, rfl, rfl⟩ rfl rfl rfl rfl rfl (by kernel_rfl) Try.func4 (by kernel_rfl)
    (of_decide_eq_true (by kernel_rfl)) (by unfold Func.isWrapper; first | (rw [if_pos (by decide +kernel)]; kernel_rfl) | (rw [if_neg (by decide +kernel)]; exact ⟨rfl, rfl⟩))
    (fun os started H enc _ => lifted os started H enc)
theorem proved : Rows.RatePlaysSaid := over
end Go.Proofs.Ythdglblbdobmoaa.ratePlays
namespace Go.Proofs.Ythdglblbdobmoaa
open Go.Proofs.Ythdglblbdobmoaa
/-- The row, under a short name, for the claim. -/
theorem ratePlays_holds : Rows.RatePlaysSaid := ratePlays.proved
end Go.Proofs.Ythdglblbdobmoaa
