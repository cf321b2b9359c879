/- Whatever is laid in, taken out, and given another label: each answer, and what is there, in order. -/
import Derived.Test.YtcdhihoghkkahaaQ19
import Derived.Test.YtcdhihoghkkahaaLg6
import Derived.Test.YtcdhihoghkkahaaRows
import Derived.Test.YtcdhihoghkkahaaChecked
import Derived.WalkKit
import Derived.ProofKit
import Derived.OpenShut
import Derived.ShutString
import Derived.ChangeOld
import Derived.Below
import Derived.SizedLaws
import Derived.Carry
set_option linter.all false
namespace Go.Proofs.Ytcdhihoghkkahaa.queuePlays
open Go.Proofs.Ytcdhihoghkkahaa
open Go.ChangeShapes Go.WideShapes Go.ChangeAt Go.RowKit
open Go.ChangeMaps (open_string shut_string)
open Go.Proofs.Ytcdhihoghkkahaa Go.Proofs.Ytcdhihoghkkahaa.Ab
set_option linter.unusedVariables false
theorem own : ownKnob Try.prog.godebug = none := by kernel_rfl
theorem laidOut : laidOutB Try.prog = true := by kernel_rfl
theorem kinds1 : fk Try.prog 12 58 = some [.int .i64, .int .i64, .int .i64, .int .i64, .int .i64, .int .i64] := by kernel_rfl
theorem cellsOf1 : Try.prog.cellsOf 58 = ([.int .i64, .int .i64, .int .i64, .int .i64, .int .i64, .int .i64] : List CK).length := by kernel_rfl
set_option maxRecDepth 100000 in
theorem lifted (os : Os) (started : os.Started) (H : Type) (enc : TypeId × Value → H) :
    ReturnsInHanded {} Try.checked os 7 .any (Rows.queuePlaysSpec.pre6 enc Try.prog Try.f7 Rows.queuePlaysRow.domain false) (Rows.queuePlaysSpec.post enc Try.prog Try.f7 false true false false) := by
  refine returnsInHanded_of_change_sized (C := Try.checked) own started (by kernel_rfl) Try.func7
    (ChangeSpec.witness6 (enc := enc) (C := Try.checked) false ⟨#[], #[.int .i64 0, .slice none 0 0], []⟩ 8 (by kernel_rfl) (by kernel_rfl) (by kernel_rfl) (by kernel_rfl)) ?_
  intro W base args ds gs before hval0 hW hcnd hsz0 _
  have hval : ∀ (j : Nat) t v, Try.f7.params[j]? = some t → args[j]? = some v → Value.okWide Try.prog W .any base t v := hval0
  have hW' := hW
  obtain ⟨p, q, hA0, hV, rfl, hfz, hnd⟩ := hW
  have hA : DataW.TrodAll enc Try.prog W 0 (fun _ => true) true Try.f7.params.toList args.toList ds p := hA0
  rw [Try.params7] at hA hval
  obtain ⟨v0, vs0, d0, ds0, p0, q0, hargs0, rfl, rfl, h0, r0⟩ := trodAll_cons hA
  obtain ⟨v1, vs1, d1, ds1, p1, q1, hargs1, rfl, rfl, h1, r1⟩ := trodAll_cons r0
  obtain ⟨rfl, rfl, rfl⟩ := trodAll_nil r1
  obtain rfl : args = #[v0, v1] := by cases args; simp_all
  obtain ⟨rfl, rfl⟩ := trodVars_none hV
  obtain ⟨a0, rfl, rfl, rfl, w0⟩ := open_int Try.underlying3 (hval 0 3 v0 rfl rfl) h0
  have k1 := h1
  have lt1 : ∀ x ∈ p1, x.block < W.heap.size := by obtain ⟨m, hm⟩ := k1; exact DataW.trod_lt m _ _ _ hm
  obtain ⟨z1, o1, n1, x1⟩ := open_list (agg := true) Try.underlying53 kinds1 cellsOf1 (by decide) (by decide) (hval 1 53 v1 rfl rfl) h1
  clear hA0 hval0 hsz0
  obtain ⟨l, e0, hl, hn⟩ := list_of (agg := true) encA (fun _ => True) (fun z hz => by
    obtain ⟨k, s, rfl, u, t⟩ := okKs_int hz
    obtain ⟨x, s0, rfl, u0, t0⟩ := okKs_int t
    obtain ⟨y, s', rfl, u', t'⟩ := okKs_int t0
    obtain ⟨y2, s2, rfl, u2, t2⟩ := okKs_int t'
    obtain ⟨y3, s3, rfl, u3, t3⟩ := okKs_int t2
    obtain ⟨g, s4, rfl, u4, t4⟩ := okKs_int t3
    obtain rfl := okKs_nil t4
    exact ⟨(k, ((x, y, y2, y3), g)), rfl, trivial⟩) z1 o1
  rw [e0] at x1
  have hcalls : Calls Try.prog 7 #[.int .i64 a0, v1] W fun e w' => e = .returned (.bool true) ∧ Below W.heap.size W w' := by
    refine CallWP.calls en_7 (queuePlays_spec _ a0 l (by unfold maxLen at n1; omega)) rfl ?_
    intro i hi
    match i with
    | 0 => exact .int _ _
    | 1 => exact x1
  refine hcalls.mono fun e W' ⟨he, bel⟩ => ?_
  subst he
  exact ⟨_, rfl, _, _, _, [], _, [], hW', trodAll_mk1 (shut_bool Try.underlying4 _), (trodAll_cons_mk (shut_int Try.underlying3 w0) (trodAll_cons_mk (Below.trod laidOut (by kernel_rfl) (of_decide_eq_true (by kernel_rfl)) k1 bel lt1) trodAll_mk0)), rfl, bel.frame _, fun h => by cases h⟩
theorem over : Rows.queuePlaysRow.holds Try.pinned (OpenSpec.ofChange Rows.queuePlaysSpec) :=
  OpenClaim.holds_of_wide 7 Try.f7 rfl rfl rfl rfl rfl rfl rfl ⟨rfl, rfl, rfl, rfl, rfl⟩ rfl rfl rfl rfl rfl (by kernel_rfl) Try.func7 (by kernel_rfl)
    (of_decide_eq_true (by kernel_rfl)) (by unfold Func.isWrapper; first | (rw [if_pos (by decide +kernel)]; kernel_rfl) | (rw [if_neg (by decide +kernel)]; exact ⟨rfl, rfl⟩))
    (fun os started H enc _ => lifted os started H enc)
theorem proved : Rows.QueuePlaysSaid := over
end Go.Proofs.Ytcdhihoghkkahaa.queuePlays
namespace Go.Proofs.Ytcdhihoghkkahaa
open Go.Proofs.Ytcdhihoghkkahaa
/-- The row, under a short name, for the claim. -/
theorem queuePlays_holds : Rows.QueuePlaysSaid := queuePlays.proved
end Go.Proofs.Ytcdhihoghkkahaa
