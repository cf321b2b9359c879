/- Any counts, and behind any frame: the program's answers are the reference's. -/
import Derived.Test.YtcdhihoghkkahaaCt2
import Derived.Test.YtcdhihoghkkahaaAb20
import Derived.Test.YtcdhihoghkkahaaRows
import Derived.Test.YtcdhihoghkkahaaChecked
import Derived.WalkKit
import Derived.ProofKit
import Derived.OpenShut
import Derived.ShutString
import Derived.ChangeOld
import Derived.Below
import Derived.SizedLaws
import Derived.Carry
set_option linter.all false
namespace Go.Proofs.Ytcdhihoghkkahaa.countIs
open Go.ChangeShapes Go.WideShapes Go.ChangeAt Go.RowKit
open Go.ChangeMaps (open_string shut_string)
open Go.Proofs.Ytcdhihoghkkahaa Go.Proofs.Ytcdhihoghkkahaa.Ab
set_option linter.unusedVariables false
theorem own : ownKnob Try.prog.godebug = none := by kernel_rfl
theorem laidOut : laidOutB Try.prog = true := by kernel_rfl
theorem cells23 : Try.prog.cellTypes Try.prog.depth 23 = some [3, 3, 4] := by kernel_rfl
theorem cellsOf23 : Try.prog.cellsOf 23 = 3 := by kernel_rfl
set_option maxRecDepth 100000 in
theorem struct23 {W : World} {base : Nat} {v : Value} (h : Value.okWide Try.prog W .any base 23 v) : ∃ t r o, v = .agg #[.int .i64 t, .int .i64 r, .bool o] := by
  simp only [Value.okWide, Try.underlying23] at h
  obtain ⟨cs, rfl, hsz, ts, hts, ⟨n, hn⟩, hc⟩ := h
  rw [cells23] at hts
  obtain rfl : [3, 3, 4] = ts := by simpa using hts
  rw [cellsOf23] at hsz
  obtain ⟨l⟩ := cs
  match l, hsz with
  | [x, y, z], _ =>
    obtain ⟨u, hu, hx⟩ := hc 0 x rfl
    obtain ⟨u', hu', hy⟩ := hc 1 y rfl
    obtain ⟨u'', hu'', hz⟩ := hc 2 z rfl
    simp at hu hu' hu''
    subst hu hu' hu''
    obtain ⟨t, rfl⟩ := okWide_int (t := 3) Try.underlying3 (by simpa only [Value.okWide, Try.underlying3] using hx)
    obtain ⟨r, rfl⟩ := okWide_int (t := 3) Try.underlying3 (by simpa only [Value.okWide, Try.underlying3] using hy)
    obtain ⟨o, rfl⟩ := okWide_bool (t := 4) Try.underlying4 (by simpa only [Value.okWide, Try.underlying4] using hz)
    exact ⟨t, r, o, rfl⟩
set_option maxRecDepth 100000 in
theorem lifted (os : Os) (started : os.Started) (H : Type) (enc : TypeId × Value → H) :
    ReturnsInHanded {} Try.checked os 3 .any (Rows.countIsSpec.pre6 enc Try.prog Try.f3 Rows.countIsRow.domain false) (Rows.countIsSpec.post enc Try.prog Try.f3 false true false false) := by
  refine returnsInHanded_of_change_sized (C := Try.checked) own started (by kernel_rfl) Try.func3
    (ChangeSpec.witness6 (enc := enc) (C := Try.checked) false ⟨#[], #[.agg #[.int .i64 0, .int .i64 0, .bool false], .int .i64 0], []⟩ 8 (by kernel_rfl) (by kernel_rfl) (by kernel_rfl) (by kernel_rfl)) ?_
  intro W base args ds gs before hval0 hW hcnd hsz0 _
  have hval : ∀ (j : Nat) t v, Try.f3.params[j]? = some t → args[j]? = some v → Value.okWide Try.prog W .any base t v := hval0
  have hW' := hW
  obtain ⟨p, q, hA0, hV, rfl, hfz, hnd⟩ := hW
  have hA : DataW.TrodAll enc Try.prog W 0 (fun _ => true) true Try.f3.params.toList args.toList ds p := hA0
  rw [Try.params3] at hA hval
  obtain ⟨v0, vs0, d0, ds0, p0, q0, hargs, rfl, rfl, h0, r0⟩ := trodAll_cons hA
  obtain ⟨v1, vs1, d1, ds1, p1, q1, hargs1, rfl, rfl, h1, r1⟩ := trodAll_cons r0
  obtain ⟨rfl, rfl, rfl⟩ := trodAll_nil r1
  obtain rfl : args = #[v0, v1] := by cases args; simp_all
  obtain ⟨rfl, rfl⟩ := trodVars_none hV
  obtain ⟨t, r, o, rfl⟩ := struct23 (hval 0 23 v0 rfl rfl)
  have k0 := h0
  have lt0 : ∀ x ∈ p0, x.block < W.heap.size := by obtain ⟨m, hm⟩ := k0; exact DataW.trod_lt m _ _ _ hm
  obtain ⟨y, rfl, rfl, rfl, w0⟩ := open_int Try.underlying3 (hval 1 3 v1 rfl rfl) h1
  clear hA0 hval0 hsz0
  have hcalls : Calls Try.prog 3 #[.agg #[.int .i64 t, .int .i64 r, .bool o], .int .i64 y] W fun e w' => e = .returned (.bool true) ∧ Below W.heap.size W w' := by
    refine CallWP.calls (countIs_spec _ (t, r, o) y _) rfl ?_
    intro i hi
    match i with
    | 0 => exact .agg _ _ rfl (fun j hj => by match j with
      | 0 => exact .int _ _
      | 1 => exact .int _ _
      | 2 => exact .bool _)
    | 1 => exact .int _ _
  refine hcalls.mono fun e W' ⟨he, bel⟩ => ?_
  subst he
  exact ⟨_, rfl, _, _, _, [], _, [], hW', trodAll_mk1 (shut_bool Try.underlying4 _), (trodAll_cons_mk (Below.trod laidOut (by kernel_rfl) (of_decide_eq_true (by kernel_rfl)) k0 bel lt0) (trodAll_cons_mk (shut_int Try.underlying3 w0) trodAll_mk0)), rfl, bel.frame _, fun h => by cases h⟩
theorem over : Rows.countIsRow.holds Try.pinned (OpenSpec.ofChange Rows.countIsSpec) :=
  OpenClaim.holds_of_wide 3 Try.f3 rfl rfl rfl rfl rfl rfl rfl ⟨rfl, rfl, rfl, rfl, rfl⟩ rfl rfl rfl rfl rfl (by kernel_rfl) Try.func3 (by kernel_rfl)
    (of_decide_eq_true (by kernel_rfl)) (by unfold Func.isWrapper; first | (rw [if_pos (by decide +kernel)]; kernel_rfl) | (rw [if_neg (by decide +kernel)]; exact ⟨rfl, rfl⟩))
    (fun os started H enc _ => lifted os started H enc)
theorem proved : Rows.CountIsSaid := over
end Go.Proofs.Ytcdhihoghkkahaa.countIs
namespace Go.Proofs.Ytcdhihoghkkahaa
/-- The row, under a short name, for the claim. -/
theorem countIs_holds : Rows.CountIsSaid := countIs.proved
end Go.Proofs.Ytcdhihoghkkahaa
