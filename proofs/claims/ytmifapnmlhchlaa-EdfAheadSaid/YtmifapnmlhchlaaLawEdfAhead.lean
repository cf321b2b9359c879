/- Whether any job can be, and which of two is ahead, is as the document says; of two just one is ahead at most. -/
import Derived.Test.YtmifapnmlhchlaaE24
import Derived.Test.YtmifapnmlhchlaaLg6
import Derived.Test.YtmifapnmlhchlaaRows
import Derived.Test.YtmifapnmlhchlaaChecked
import Derived.WalkKit
import Derived.ProofKit
import Derived.OpenShut
import Derived.ShutString
import Derived.ChangeOld
import Derived.Below
import Derived.SizedLaws
import Derived.Carry
set_option linter.all false
namespace Go.Proofs.Ytmifapnmlhchlaa.edfAhead
open Go.Proofs.Ytmifapnmlhchlaa
open Go.ChangeShapes Go.WideShapes Go.ChangeAt Go.RowKit
open Go.ChangeMaps (open_string shut_string)
open Go.Proofs.Ytmifapnmlhchlaa Go.Proofs.Ytmifapnmlhchlaa.Ab
set_option linter.unusedVariables false
theorem own : ownKnob Try.prog.godebug = none := by kernel_rfl
theorem laidOut : laidOutB Try.prog = true := by kernel_rfl
theorem kinds0 : fk Try.prog 12 42 = some [.int .i64, .int .i64, .int .i64, .int .i64] := by kernel_rfl
theorem kinds1 : fk Try.prog 12 42 = some [.int .i64, .int .i64, .int .i64, .int .i64] := by kernel_rfl
set_option maxRecDepth 100000 in
theorem lifted (os : Os) (started : os.Started) (H : Type) (enc : TypeId × Value → H) :
    ReturnsInHanded {} Try.checked os 4 .any (Rows.edfAheadSpec.pre6 enc Try.prog Try.f4 Rows.edfAheadRow.domain false) (Rows.edfAheadSpec.post enc Try.prog Try.f4 false true false false) := by
  refine returnsInHanded_of_change_sized (C := Try.checked) own started (by kernel_rfl) Try.func4
    (ChangeSpec.witness6 (enc := enc) (C := Try.checked) false ⟨#[], #[.agg #[.int .i64 0, .int .i64 0, .int .i64 0, .int .i64 0], .agg #[.int .i64 0, .int .i64 0, .int .i64 0, .int .i64 0], .int .i64 0], []⟩ 8 (by kernel_rfl) (by kernel_rfl) (by kernel_rfl) (by kernel_rfl)) ?_
  intro W base args ds gs before hval0 hW hcnd hsz0 _
  have hval : ∀ (j : Nat) t v, Try.f4.params[j]? = some t → args[j]? = some v → Value.okWide Try.prog W .any base t v := hval0
  have hW' := hW
  obtain ⟨p, q, hA0, hV, rfl, hfz, hnd⟩ := hW
  have hA : DataW.TrodAll enc Try.prog W 0 (fun _ => true) true Try.f4.params.toList args.toList ds p := hA0
  rw [Try.params4] at hA hval
  obtain ⟨v0, vs0, d0, ds0, p0, q0, hargs0, rfl, rfl, h0, r0⟩ := trodAll_cons hA
  obtain ⟨v1, vs1, d1, ds1, p1, q1, hargs1, rfl, rfl, h1, r1⟩ := trodAll_cons r0
  obtain ⟨v2, vs2, d2, ds2, p2, q2, hargs2, rfl, rfl, h2, r2⟩ := trodAll_cons r1
  obtain ⟨rfl, rfl, rfl⟩ := trodAll_nil r2
  obtain rfl : args = #[v0, v1, v2] := by cases args; simp_all
  obtain ⟨rfl, rfl⟩ := trodVars_none hV
  have k0 := h0
  have lt0 : ∀ x ∈ p0, x.block < W.heap.size := by obtain ⟨m, hm⟩ := k0; exact DataW.trod_lt m _ _ _ hm
  obtain ⟨c0, rfl, o0⟩ := open_agg kinds0 (by rw [Try.underlying42]) (hval 0 42 v0 rfl rfl) h0
  have k1 := h1
  have lt1 : ∀ x ∈ p1, x.block < W.heap.size := by obtain ⟨m, hm⟩ := k1; exact DataW.trod_lt m _ _ _ hm
  obtain ⟨c1, rfl, o1⟩ := open_agg kinds1 (by rw [Try.underlying42]) (hval 1 42 v1 rfl rfl) h1
  obtain ⟨a2, rfl, rfl, rfl, w2⟩ := open_int Try.underlying2 (hval 2 2 v2 rfl rfl) h2
  clear hA0 hval0 hsz0
  obtain ⟨x0, s0, e0, u0, t0⟩ := okKs_int o0
  obtain ⟨x1, s1, e1, u1, t1⟩ := okKs_int t0
  obtain ⟨x2, s2, e2, u2, t2⟩ := okKs_int t1
  obtain ⟨x3, s3, e3, u3, t3⟩ := okKs_int t2
  obtain rfl := okKs_nil t3
  subst e3 e2 e1 e0
  obtain ⟨y0, q0, f0, g0, z0⟩ := okKs_int o1
  obtain ⟨y1, q1, f1, g1, z1⟩ := okKs_int z0
  obtain ⟨y2, q2, f2, g2, z2⟩ := okKs_int z1
  obtain ⟨y3, q3, f3, g3, z3⟩ := okKs_int z2
  obtain rfl := okKs_nil z3
  subst f3 f2 f1 f0
  have hcalls : Calls Try.prog 4 #[.agg #[.int .i64 x0, .int .i64 x1, .int .i64 x2, .int .i64 x3], .agg #[.int .i64 y0, .int .i64 y1, .int .i64 y2, .int .i64 y3], .int .i64 a2] W fun e w' => e = .returned (.bool true) ∧ Below W.heap.size W w' := by
    refine CallWP.calls en_4 (edfAhead_spec _ (x0, x1, x2, x3) (y0, y1, y2, y3) a2 _) rfl ?_
    intro i hi
    match i with
    | 0 => exact .agg _ _ rfl (fun j hj => by match j with
      | 0 => exact .int _ _
      | 1 => exact .int _ _
      | 2 => exact .int _ _
      | 3 => exact .int _ _)
    | 1 => exact .agg _ _ rfl (fun j hj => by match j with
      | 0 => exact .int _ _
      | 1 => exact .int _ _
      | 2 => exact .int _ _
      | 3 => exact .int _ _)
    | 2 => exact .int _ _
  refine hcalls.mono fun e W' ⟨he, bel⟩ => ?_
  subst he
  exact ⟨_, rfl, _, _, _, [], _, [], hW', trodAll_mk1 (shut_bool Try.underlying4 _), (trodAll_cons_mk (Below.trod laidOut (by kernel_rfl) (of_decide_eq_true (by kernel_rfl)) k0 bel lt0) (trodAll_cons_mk (Below.trod laidOut (by kernel_rfl) (of_decide_eq_true (by kernel_rfl)) k1 bel lt1) (trodAll_cons_mk (shut_int Try.underlying2 w2) trodAll_mk0))), rfl, bel.frame _, fun h => by cases h⟩
theorem over : Rows.edfAheadRow.holds Try.pinned (OpenSpec.ofChange Rows.edfAheadSpec) :=
  OpenClaim.holds_of_wide 4 Try.f4 rfl rfl rfl rfl rfl rfl rfl ⟨rfl, rfl, rfl, rfl, rfl⟩ rfl rfl rfl rfl rfl (by kernel_rfl) Try.func4 (by kernel_rfl)
    (of_decide_eq_true (by kernel_rfl)) (by unfold Func.isWrapper; first | (rw [if_pos (by decide +kernel)]; kernel_rfl) | (rw [if_neg (by decide +kernel)]; exact ⟨rfl, rfl⟩))
    (fun os started H enc _ => lifted os started H enc)
theorem proved : Rows.EdfAheadSaid := over
end Go.Proofs.Ytmifapnmlhchlaa.edfAhead
namespace Go.Proofs.Ytmifapnmlhchlaa
open Go.Proofs.Ytmifapnmlhchlaa
/-- The row, under a short name, for the claim. -/
theorem edfAhead_holds : Rows.EdfAheadSaid := edfAhead.proved
end Go.Proofs.Ytmifapnmlhchlaa
