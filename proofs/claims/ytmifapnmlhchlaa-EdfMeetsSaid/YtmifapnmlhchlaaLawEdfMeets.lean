/- If streams pass the test of demand, nothing is late, whenever their jobs come, a period apart at least. -/
import Derived.Test.YtmifapnmlhchlaaE34
import Derived.Test.YtmifapnmlhchlaaLg6
import Derived.Test.YtmifapnmlhchlaaRows
import Derived.Test.YtmifapnmlhchlaaChecked
import Derived.WalkKit
import Derived.ProofKit
import Derived.OpenShut
import Derived.ShutString
import Derived.ChangeOld
import Derived.Below
import Derived.SizedLaws
import Derived.Carry
set_option linter.all false
namespace Go.Proofs.Ytmifapnmlhchlaa.edfMeets
open Go.Proofs.Ytmifapnmlhchlaa
open Go.ChangeShapes Go.WideShapes Go.ChangeAt Go.RowKit
open Go.ChangeMaps (open_string shut_string)
open Go.Proofs.Ytmifapnmlhchlaa Go.Proofs.Ytmifapnmlhchlaa.Ab
set_option linter.unusedVariables false
theorem own : ownKnob Try.prog.godebug = none := by kernel_rfl
theorem laidOut : laidOutB Try.prog = true := by kernel_rfl
theorem kinds0 : fk Try.prog 12 54 = some [.int .i64, .int .i64, .int .i64, .int .i64, .int .i64, .int .i64, .int .i64] := by kernel_rfl
theorem cellsOf0 : Try.prog.cellsOf 54 = ([.int .i64, .int .i64, .int .i64, .int .i64, .int .i64, .int .i64, .int .i64] : List CK).length := by kernel_rfl
theorem kinds2 : fk Try.prog 12 82 = some [.int .i64, .int .u16] := by kernel_rfl
theorem cellsOf2 : Try.prog.cellsOf 82 = ([.int .i64, .int .u16] : List CK).length := by kernel_rfl
set_option maxRecDepth 100000 in
theorem lifted (os : Os) (started : os.Started) (H : Type) (enc : TypeId × Value → H) :
    ReturnsInHanded {} Try.checked os 7 .any (Rows.edfMeetsSpec.pre6 enc Try.prog Try.f7 Rows.edfMeetsRow.domain false) (Rows.edfMeetsSpec.post enc Try.prog Try.f7 false true false false) := by
  refine returnsInHanded_of_change_sized (C := Try.checked) own started (by kernel_rfl) Try.func7
    (ChangeSpec.witness6 (enc := enc) (C := Try.checked) false ⟨#[], #[.slice none 0 0, .int .u8 0, .slice none 0 0], []⟩ 8 (by kernel_rfl) (by kernel_rfl) (by kernel_rfl) (by kernel_rfl)) ?_
  intro W base args ds gs before hval0 hW hcnd hsz0 _
  have hval : ∀ (j : Nat) t v, Try.f7.params[j]? = some t → args[j]? = some v → Value.okWide Try.prog W .any base t v := hval0
  have hW' := hW
  obtain ⟨p, q, hA0, hV, rfl, hfz, hnd⟩ := hW
  have hA : DataW.TrodAll enc Try.prog W 0 (fun _ => true) true Try.f7.params.toList args.toList ds p := hA0
  rw [Try.params7] at hA hval
  obtain ⟨v0, vs0, d0, ds0, p0, q0, hargs0, rfl, rfl, h0, r0⟩ := trodAll_cons hA
  obtain ⟨v1, vs1, d1, ds1, p1, q1, hargs1, rfl, rfl, h1, r1⟩ := trodAll_cons r0
  obtain ⟨v2, vs2, d2, ds2, p2, q2, hargs2, rfl, rfl, h2, r2⟩ := trodAll_cons r1
  obtain ⟨rfl, rfl, rfl⟩ := trodAll_nil r2
  obtain rfl : args = #[v0, v1, v2] := by cases args; simp_all
  obtain ⟨rfl, rfl⟩ := trodVars_none hV
  have k0 := h0
  have lt0 : ∀ x ∈ p0, x.block < W.heap.size := by obtain ⟨m, hm⟩ := k0; exact DataW.trod_lt m _ _ _ hm
  obtain ⟨z0, o0, n0, x0⟩ := open_list (agg := true) Try.underlying49 kinds0 cellsOf0 (by decide) (by decide) (hval 0 49 v0 rfl rfl) h0
  obtain ⟨a1, rfl, rfl, rfl, w1⟩ := open_int Try.underlying5 (hval 1 5 v1 rfl rfl) h1
  have k2 := h2
  have lt2 : ∀ x ∈ p2, x.block < W.heap.size := by obtain ⟨m, hm⟩ := k2; exact DataW.trod_lt m _ _ _ hm
  obtain ⟨z2, o2, n2, x2⟩ := open_list (agg := true) Try.underlying50 kinds2 cellsOf2 (by decide) (by decide) (hval 2 50 v2 rfl rfl) h2
  clear hA0 hval0 hsz0
  obtain ⟨l, e0, hl, hn⟩ := list_of (agg := true) encS (fun _ => True) (fun z hz => by
    obtain ⟨y1, s1, rfl, u1, t1⟩ := okKs_int hz
    obtain ⟨y2, s2, rfl, u2, t2⟩ := okKs_int t1
    obtain ⟨y3, s3, rfl, u3, t3⟩ := okKs_int t2
    obtain ⟨y4, s4, rfl, u4, t4⟩ := okKs_int t3
    obtain ⟨y5, s5, rfl, u5, t5⟩ := okKs_int t4
    obtain ⟨y6, s6, rfl, u6, t6⟩ := okKs_int t5
    obtain ⟨y7, s7, rfl, u7, t7⟩ := okKs_int t6
    obtain rfl := okKs_nil t7
    exact ⟨(y1, y2, y3, y4, y5, y6, y7), rfl, trivial⟩) z0 o0
  rw [e0] at x0
  obtain ⟨c, e2, hc, hcn⟩ := list_of (agg := true) encCm (fun x => 0 ≤ x.2 ∧ x.2 ≤ 65535) (fun z hz => by
    obtain ⟨y1, s1, rfl, u1, t1⟩ := okKs_int hz
    obtain ⟨y2, s2, rfl, u2, t2⟩ := okKs_int t1
    obtain rfl := okKs_nil t2
    exact ⟨(y1, y2), rfl, by simpa [IntKind.min, IntKind.max, IntKind.signed, IntKind.bits] using u2⟩) z2 o2
  rw [e2] at x2
  have b1 : 0 ≤ a1 ∧ a1 ≤ 255 := by simpa [Lit.wf, IntKind.min, IntKind.max, IntKind.signed, IntKind.bits] using w1
  have hcalls : Calls Try.prog 7 #[v0, .int .u8 a1, v2] W fun e w' => e = .returned (.bool true) ∧ Below W.heap.size W w' := by
    refine CallWP.calls en_7 (edfMeets_spec _ l (by unfold maxLen at n0; omega) a1 b1.1 b1.2 c (by unfold maxLen at n2; omega) hc) rfl ?_
    intro i hi
    match i with
    | 0 => exact x0
    | 1 => exact .int _ _
    | 2 => exact x2
  refine hcalls.mono fun e W' ⟨he, bel⟩ => ?_
  subst he
  exact ⟨_, rfl, _, _, _, [], _, [], hW', trodAll_mk1 (shut_bool Try.underlying4 _), (trodAll_cons_mk (Below.trod laidOut (by kernel_rfl) (of_decide_eq_true (by kernel_rfl)) k0 bel lt0) (trodAll_cons_mk (shut_int Try.underlying5 w1) (trodAll_cons_mk (Below.trod laidOut (by kernel_rfl) (of_decide_eq_true (by kernel_rfl)) k2 bel lt2) trodAll_mk0))), rfl, bel.frame _, fun h => by cases h⟩
theorem over : Rows.edfMeetsRow.holds Try.pinned (OpenSpec.ofChange Rows.edfMeetsSpec) :=
  OpenClaim.holds_of_wide 7 Try.f7 rfl rfl rfl rfl rfl rfl rfl ⟨rfl, rfl, rfl, rfl, rfl⟩ rfl rfl rfl rfl rfl (by kernel_rfl) Try.func7 (by kernel_rfl)
    (of_decide_eq_true (by kernel_rfl)) (by unfold Func.isWrapper; first | (rw [if_pos (by decide +kernel)]; kernel_rfl) | (rw [if_neg (by decide +kernel)]; exact ⟨rfl, rfl⟩))
    (fun os started H enc _ => lifted os started H enc)
theorem proved : Rows.EdfMeetsSaid := over
end Go.Proofs.Ytmifapnmlhchlaa.edfMeets
namespace Go.Proofs.Ytmifapnmlhchlaa
open Go.Proofs.Ytmifapnmlhchlaa
/-- The row, under a short name, for the claim. -/
theorem edfMeets_holds : Rows.EdfMeetsSaid := edfMeets.proved
end Go.Proofs.Ytmifapnmlhchlaa
