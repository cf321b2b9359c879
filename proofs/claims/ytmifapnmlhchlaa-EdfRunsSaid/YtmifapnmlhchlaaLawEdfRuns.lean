/- What is sent of any jobs, what is late, and until when the wire is busy, is as the document says. -/
import Derived.Test.YtmifapnmlhchlaaE29
import Derived.Test.YtmifapnmlhchlaaLg6
import Derived.Test.YtmifapnmlhchlaaRows
import Derived.Test.YtmifapnmlhchlaaChecked
import Derived.WalkKit
import Derived.ProofKit
import Derived.OpenShut
import Derived.ShutString
import Derived.ChangeOld
import Derived.Below
import Derived.SizedLaws
import Derived.Carry
set_option linter.all false
namespace Go.Proofs.Ytmifapnmlhchlaa.edfRuns
open Go.Proofs.Ytmifapnmlhchlaa
open Go.ChangeShapes Go.WideShapes Go.ChangeAt Go.RowKit
open Go.ChangeMaps (open_string shut_string)
open Go.Proofs.Ytmifapnmlhchlaa Go.Proofs.Ytmifapnmlhchlaa.Ab
set_option linter.unusedVariables false
theorem own : ownKnob Try.prog.godebug = none := by kernel_rfl
theorem laidOut : laidOutB Try.prog = true := by kernel_rfl
theorem kinds0 : fk Try.prog 12 42 = some [.int .i64, .int .i64, .int .i64, .int .i64] := by kernel_rfl
theorem cellsOf0 : Try.prog.cellsOf 42 = ([.int .i64, .int .i64, .int .i64, .int .i64] : List CK).length := by kernel_rfl
set_option maxRecDepth 100000 in
theorem lifted (os : Os) (started : os.Started) (H : Type) (enc : TypeId × Value → H) :
    ReturnsInHanded {} Try.checked os 3 .any (Rows.edfRunsSpec.pre6 enc Try.prog Try.f3 Rows.edfRunsRow.domain false) (Rows.edfRunsSpec.post enc Try.prog Try.f3 false true false false) := by
  refine returnsInHanded_of_change_sized (C := Try.checked) own started (by kernel_rfl) Try.func3
    (ChangeSpec.witness6 (enc := enc) (C := Try.checked) false ⟨#[], #[.slice none 0 0, .int .i64 0, .int .i64 0], []⟩ 8 (by kernel_rfl) (by kernel_rfl) (by kernel_rfl) (by kernel_rfl)) ?_
  intro W base args ds gs before hval0 hW hcnd hsz0 _
  have hval : ∀ (j : Nat) t v, Try.f3.params[j]? = some t → args[j]? = some v → Value.okWide Try.prog W .any base t v := hval0
  have hW' := hW
  obtain ⟨p, q, hA0, hV, rfl, hfz, hnd⟩ := hW
  have hA : DataW.TrodAll enc Try.prog W 0 (fun _ => true) true Try.f3.params.toList args.toList ds p := hA0
  rw [Try.params3] at hA hval
  obtain ⟨v0, vs0, d0, ds0, p0, q0, hargs0, rfl, rfl, h0, r0⟩ := trodAll_cons hA
  obtain ⟨v1, vs1, d1, ds1, p1, q1, hargs1, rfl, rfl, h1, r1⟩ := trodAll_cons r0
  obtain ⟨v2, vs2, d2, ds2, p2, q2, hargs2, rfl, rfl, h2, r2⟩ := trodAll_cons r1
  obtain ⟨rfl, rfl, rfl⟩ := trodAll_nil r2
  obtain rfl : args = #[v0, v1, v2] := by cases args; simp_all
  obtain ⟨rfl, rfl⟩ := trodVars_none hV
  have k0 := h0
  have lt0 : ∀ x ∈ p0, x.block < W.heap.size := by obtain ⟨m, hm⟩ := k0; exact DataW.trod_lt m _ _ _ hm
  obtain ⟨z0, o0, n0, x0⟩ := open_list (agg := true) Try.underlying22 kinds0 cellsOf0 (by decide) (by decide) (hval 0 22 v0 rfl rfl) h0
  obtain ⟨a1, rfl, rfl, rfl, w1⟩ := open_int Try.underlying2 (hval 1 2 v1 rfl rfl) h1
  obtain ⟨a2, rfl, rfl, rfl, w2⟩ := open_int Try.underlying2 (hval 2 2 v2 rfl rfl) h2
  clear hA0 hval0 hsz0
  obtain ⟨l, e0, hl, hn⟩ := list_of (agg := true) encJ (fun _ => True) (fun z hz => by
    obtain ⟨x, s, rfl, u, t⟩ := okKs_int hz
    obtain ⟨y, s', rfl, u', t'⟩ := okKs_int t
    obtain ⟨y2, s2, rfl, u2, t2⟩ := okKs_int t'
    obtain ⟨y3, s3, rfl, u3, t3⟩ := okKs_int t2
    obtain rfl := okKs_nil t3
    exact ⟨(x, y, y2, y3), rfl, trivial⟩) z0 o0
  rw [e0] at x0
  have hcalls : Calls Try.prog 3 #[v0, .int .i64 a1, .int .i64 a2] W fun e w' => e = .returned (.bool true) ∧ Below W.heap.size W w' := by
    refine CallWP.calls en_3 (edfRuns_spec _ l (by unfold maxLen at n0; omega) a1 a2) rfl ?_
    intro i hi
    match i with
    | 0 => exact x0
    | 1 => exact .int _ _
    | 2 => exact .int _ _
  refine hcalls.mono fun e W' ⟨he, bel⟩ => ?_
  subst he
  exact ⟨_, rfl, _, _, _, [], _, [], hW', trodAll_mk1 (shut_bool Try.underlying4 _), (trodAll_cons_mk (Below.trod laidOut (by kernel_rfl) (of_decide_eq_true (by kernel_rfl)) k0 bel lt0) (trodAll_cons_mk (shut_int Try.underlying2 w1) (trodAll_cons_mk (shut_int Try.underlying2 w2) trodAll_mk0))), rfl, bel.frame _, fun h => by cases h⟩
theorem over : Rows.edfRunsRow.holds Try.pinned (OpenSpec.ofChange Rows.edfRunsSpec) :=
  OpenClaim.holds_of_wide 3 Try.f3 rfl rfl rfl rfl rfl rfl rfl ⟨rfl, rfl, rfl, rfl, rfl⟩ rfl rfl rfl rfl rfl (by kernel_rfl) Try.func3 (by kernel_rfl)
    (of_decide_eq_true (by kernel_rfl)) (by unfold Func.isWrapper; first | (rw [if_pos (by decide +kernel)]; kernel_rfl) | (rw [if_neg (by decide +kernel)]; exact ⟨rfl, rfl⟩))
    (fun os started H enc _ => lifted os started H enc)
theorem proved : Rows.EdfRunsSaid := over
end Go.Proofs.Ytmifapnmlhchlaa.edfRuns
namespace Go.Proofs.Ytmifapnmlhchlaa
open Go.Proofs.Ytmifapnmlhchlaa
/-- The row, under a short name, for the claim. -/
theorem edfRuns_holds : Rows.EdfRunsSaid := edfRuns.proved
end Go.Proofs.Ytmifapnmlhchlaa
