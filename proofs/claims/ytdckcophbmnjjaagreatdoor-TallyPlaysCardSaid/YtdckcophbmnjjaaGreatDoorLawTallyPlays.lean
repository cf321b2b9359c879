/- Whatever came, and became of it: each answer, rows, and what is open. -/
import Derived.Test.YtdckcophbmnjjaaGreatDoorW29
import Derived.Test.YtdckcophbmnjjaaGreatDoorLgd
import Derived.Test.YtdckcophbmnjjaaGreatDoorLg6
import Derived.Test.YtdckcophbmnjjaaGreatDoorRows
import Derived.Test.YtdckcophbmnjjaaGreatDoorCards
import Derived.Test.YtdckcophbmnjjaaGreatDoorTie
import Derived.Test.YtdckcophbmnjjaaGreatDoorChecked
import Derived.WalkKit
import Derived.ProofKit
import Derived.OpenShut
import Derived.ShutString
import Derived.ChangeOld
import Derived.Below
import Derived.SizedLaws
import Derived.Carry
import Derived.SevenTiedAt
import Derived.LaidHandle
set_option linter.all false
namespace Go.Proofs.YtdckcophbmnjjaaGreatDoor.tallyPlays
open Go.Proofs.YtdckcophbmnjjaaGreatDoor
open Go.ChangeShapes Go.WideShapes Go.ChangeAt Go.RowKit
open Go.ChangeMaps (open_string shut_string)
open Go.Proofs.YtdckcophbmnjjaaGreatDoor Go.Proofs.YtdckcophbmnjjaaGreatDoor.Ab
set_option linter.unusedVariables false
theorem own : ownKnob Tryz.prog.godebug = none := by kernel_rfl
theorem laidOut : laidOutB Tryz.prog = true := by kernel_rfl
abbrev vName : String := Rows.tallyPlaysRow.named.headD ""
theorem gN : Tryz.prog.globalNamed vName = some 0 := by kernel_rfl
theorem gT : (Tryz.prog.globals[0]?).map (·.type) = some 162 := by kernel_rfl
theorem cE : Tryz.prog.cellsOf 5 = 1 := by kernel_rfl
theorem cT : Tryz.prog.cellsOf 162 = 16 := by kernel_rfl
/-- The divisor's bits. -/
abbrev bits : List Int := [1, 1, 0, 0, 0, 1, 0, 1, 1, 0, 0, 1, 1, 0, 0, 1]
theorem divOK : DivOK (tabG 0 .u8 bits) := ⟨bits.map (AVal.int .u8), tabG_at _ _ _, rfl, fun j hj => ⟨bits.getD j 0, by have h2 : j < bits.length := hj; rw [List.getD_eq_getElem?_getD, List.getElem?_map, List.getElem?_eq_getElem h2, List.getD_eq_getElem?_getD, List.getElem?_eq_getElem h2]; rfl⟩⟩
/-- A world in which the variable holds what its initialiser lays. -/
noncomputable def laidWorld (os : Os) : World :=
  let w0 := World.holding Tryz.prog os ⟨#[], #[], []⟩
  { w0 with heap := w0.heap.modify 0 fun
      | .cells _ t frozen => .cells (bits.map fun z => Value.int .u8 z).toArray t frozen
      | o => o }
theorem laid_met (os : Os) (args : Array Value) : laidMetH Tryz.prog Rows.tallyPlaysRow.laid ((laidWorld os).forCall (fun _ _ => 0) ⟨#[], args, []⟩).memory :=
  laidMetH_of_parts (laidMet_of_run' 8 (by kernel_rfl) (by kernel_rfl)) (by kernel_rfl)
theorem tab_of {W : World} (h : laidMetH Tryz.prog Rows.tallyPlaysRow.laid W) : Lib.TabIs Tryz.prog W vName .u8 bits :=
  Lib.tabIs_of_head gN gT Tryz.underlying162 Tryz.underlying5 cE cT (rest := []) (show laidMet Tryz.prog [(vName, Lib.tabData .u8 bits)] W from h)
theorem kinds0 : fk Tryz.prog 12 48 = some [.int .i64, .int .i64, .int .i64, .int .i64, .int .i64, .int .i64, .int .i64] := by kernel_rfl
theorem cellsOf0 : Tryz.prog.cellsOf 48 = ([.int .i64, .int .i64, .int .i64, .int .i64, .int .i64, .int .i64, .int .i64] : List CK).length := by kernel_rfl
theorem kinds1 : fk Tryz.prog 12 39 = some [.int .i64, .int .i64, .bool, .int .i64, .int .i64, .int .i64, .int .i64, .int .i64, .int .i64, .int .i64] := by kernel_rfl
theorem cellsOf1 : Tryz.prog.cellsOf 39 = ([.int .i64, .int .i64, .bool, .int .i64, .int .i64, .int .i64, .int .i64, .int .i64, .int .i64, .int .i64] : List CK).length := by kernel_rfl
set_option maxRecDepth 100000 in
theorem lifted (os : Os) (started : os.Started) (H : Type) (enc : TypeId × Value → H) :
    ReturnsInHanded {} Tryz.checked os 3 .any (fun w args => (Rows.tallyPlaysSpec.pre enc Tryz.prog Tryz.f3 Rows.tallyPlaysRow.domain false w args ∧ laidMetH Tryz.prog Rows.tallyPlaysRow.laid w) ∧ sizedMet enc Tryz.prog Tryz.f3 (OpenSpec.ofChange Rows.tallyPlaysSpec) false w args)
      (Rows.tallyPlaysSpec.post enc Tryz.prog Tryz.f3 false true false false) := by
  refine returnsInHanded_of_change_and (C := Tryz.checked) (X := fun w _ => laidMetH Tryz.prog Rows.tallyPlaysRow.laid w) (fun _ _ _ hh h => h.of_heap hh) own started (by kernel_rfl) Tryz.func3
    (ChangeSpec.witness_at (enc := enc) (C := Tryz.checked) (os := os) (X := fun w _ => laidMetH Tryz.prog Rows.tallyPlaysRow.laid w) false (laidWorld os) #[.slice none 0 0, .slice none 0 0, .bool false] 8 rfl (by kernel_rfl) (by kernel_rfl) (by kernel_rfl) (by kernel_rfl) (by kernel_rfl) (laid_met os _)) ?_
  intro W base args ds gs before hval0 hW hcnd hsz0 hLd _
  have hval : ∀ (j : Nat) t v, Tryz.f3.params[j]? = some t → args[j]? = some v → Value.okWide Tryz.prog W .any base t v := hval0
  have hW' := hW
  obtain ⟨p, q, hA0, hV, rfl, hfz, hnd⟩ := hW
  have hA : DataW.TrodAll enc Tryz.prog W 0 (fun _ => true) true Tryz.f3.params.toList args.toList ds p := hA0
  rw [Tryz.params3] at hA hval
  obtain ⟨v0, vs0, d0, ds0, p0, q0, hargs0, rfl, rfl, h0, r0⟩ := trodAll_cons hA
  obtain ⟨v1, vs1, d1, ds1, p1, q1, hargs1, rfl, rfl, h1, r1⟩ := trodAll_cons r0
  obtain ⟨v2, vs2, d2, ds2, p2, q2, hargs2, rfl, rfl, h2, r2⟩ := trodAll_cons r1
  obtain ⟨rfl, rfl, rfl⟩ := trodAll_nil r2
  obtain rfl : args = #[v0, v1, v2] := by cases args; simp_all
  obtain ⟨rfl, rfl⟩ := trodVars_none hV
  have k0 := h0
  have lt0 : ∀ x ∈ p0, x.block < W.heap.size := by obtain ⟨m, hm⟩ := k0; exact DataW.trod_lt m _ _ _ hm
  obtain ⟨z0, o0, n0, x0⟩ := open_list (agg := true) Tryz.underlying22 kinds0 cellsOf0 (by decide) (by decide) (hval 0 22 v0 rfl rfl) h0
  have k1 := h1
  have lt1 : ∀ x ∈ p1, x.block < W.heap.size := by obtain ⟨m, hm⟩ := k1; exact DataW.trod_lt m _ _ _ hm
  obtain ⟨z1, o1, n1, x1⟩ := open_list (agg := true) Tryz.underlying23 kinds1 cellsOf1 (by decide) (by decide) (hval 1 23 v1 rfl rfl) h1
  obtain ⟨a2, rfl, rfl, rfl⟩ := open_bool Tryz.underlying4 (hval 2 4 v2 rfl rfl) h2
  clear hA0 hval0 hsz0
  have hgo := gOk_tab (tab_of hLd) gN (by decide)
  obtain ⟨l, e0, hl, hn⟩ := list_of (agg := true) encS (fun _ => True) (fun z hz => by
    obtain ⟨y1, s1, rfl, u1, t1⟩ := okKs_int hz
    obtain ⟨y2, s2, rfl, u2, t2⟩ := okKs_int t1
    obtain ⟨y3, s3, rfl, u3, t3⟩ := okKs_int t2
    obtain ⟨y4, s4, rfl, u4, t4⟩ := okKs_int t3
    obtain ⟨y5, s5, rfl, u5, t5⟩ := okKs_int t4
    obtain ⟨y6, s6, rfl, u6, t6⟩ := okKs_int t5
    obtain ⟨y7, s7, rfl, u7, t7⟩ := okKs_int t6
    obtain rfl := okKs_nil t7
    exact ⟨(y1, y2, y3, y4, y5, y6, y7), rfl, trivial⟩) z0 o0
  rw [e0] at x0
  obtain ⟨l2, e2, hl2, hn2⟩ := list_of (agg := true) encA (fun _ => True) (fun z hz => by
    obtain ⟨y1, s1, rfl, u1, t1⟩ := okKs_int hz
    obtain ⟨y2, s2, rfl, u2, t2⟩ := okKs_int t1
    obtain ⟨y3, s3, rfl, t3⟩ := okKs_bool t2
    obtain ⟨y4, s4, rfl, u4, t4⟩ := okKs_int t3
    obtain ⟨y5, s5, rfl, u5, t5⟩ := okKs_int t4
    obtain ⟨y6, s6, rfl, u6, t6⟩ := okKs_int t5
    obtain ⟨y7, s7, rfl, u7, t7⟩ := okKs_int t6
    obtain ⟨y8, s8, rfl, u8, t8⟩ := okKs_int t7
    obtain ⟨y9, s9, rfl, u9, t9⟩ := okKs_int t8
    obtain ⟨ya, sa, rfl, ua, ta⟩ := okKs_int t9
    obtain rfl := okKs_nil ta
    exact ⟨(y1, y2, y3, (y4, y5, y6, y7), y8, y9, ya), rfl, trivial⟩) z1 o1
  rw [e2] at x1
  have hcalls : Calls Tryz.prog 3 #[v0, v1, .bool a2] W fun e w' => e = .returned (.bool true) ∧ Below W.heap.size W w' := by
    refine CallWP.callsG en_3 hgo (tallyPlays_spec _ divOK l (by unfold maxLen at n0; omega) l2 (by unfold maxLen at n1; omega) a2 _) rfl ?_
    intro i hi
    match i with
    | 0 => exact x0
    | 1 => exact x1
    | 2 => exact .bool a2
  refine hcalls.mono fun e W' ⟨he, bel⟩ => ?_
  subst he
  exact ⟨_, rfl, _, _, _, [], _, [], hW', trodAll_mk1 (shut_bool Tryz.underlying4 _), (trodAll_cons_mk (Below.trod laidOut (by kernel_rfl) (of_decide_eq_true (by kernel_rfl)) k0 bel lt0) (trodAll_cons_mk (Below.trod laidOut (by kernel_rfl) (of_decide_eq_true (by kernel_rfl)) k1 bel lt1) (trodAll_cons_mk (shut_bool Tryz.underlying4 _) trodAll_mk0))), rfl, bel.frame _, fun h => by cases h⟩
theorem over : Rows.tallyPlaysRow.holds Tryz.pinned (OpenSpec.ofChange Rows.tallyPlaysSpec) :=
  OpenClaim.holds_of_wide 3 Tryz.f3 rfl rfl rfl rfl rfl rfl rfl ⟨rfl, rfl, rfl, rfl, rfl⟩ rfl rfl rfl rfl rfl (by kernel_rfl) Tryz.func3 (by kernel_rfl)
    (of_decide_eq_true (by kernel_rfl)) (by unfold Func.isWrapper; first | (rw [if_pos (by decide +kernel)]; kernel_rfl) | (rw [if_neg (by decide +kernel)]; exact ⟨rfl, rfl⟩))
    (fun os started H enc _ => lifted os started H enc)
theorem card : Rows.TallyPlaysCardSaid :=
  Claim7.holds_tied_plain_at .later [] [.data] true (true, "c3102f49c573aded1a80fc823b7b848d09e0676b20b7ae6b479df150bae0e45f") false
    over (fun _ h => by cases h) (by kernel_rfl) (fun _ h => by cases h) tallyPlays_row_tie rfl ⟨rfl, rfl⟩ (by kernel_rfl) rfl
    (fun f fn hf hfn => by
      obtain rfl : f = 3 := Option.some.inj ((show Tryz.prog.funcNamed Rows.tallyPlaysRow.func = some 3 by kernel_rfl).symm.trans hf) |>.symm
      obtain rfl : fn = Tryz.f3 := (Option.some.inj (Tryz.func3.symm.trans hfn)).symm
      exact ⟨by kernel_rfl, fun j t ht => by
        rw [Tryz.params3] at ht
        rcases j with _ | j
        · obtain rfl : 22 = t := by simpa using ht
          exact (show Tryz.prog.wantsStandIn 22 = false by kernel_rfl)
        rcases j with _ | j
        · obtain rfl : 23 = t := by simpa using ht
          exact (show Tryz.prog.wantsStandIn 23 = false by kernel_rfl)
        rcases j with _ | j
        · obtain rfl : 4 = t := by simpa using ht
          exact (show Tryz.prog.wantsStandIn 4 = false by kernel_rfl)
        · simp at ht⟩)
    (by kernel_rfl)
end Go.Proofs.YtdckcophbmnjjaaGreatDoor.tallyPlays
namespace Go.Proofs.YtdckcophbmnjjaaGreatDoor
open Go.Proofs.YtdckcophbmnjjaaGreatDoor
/-- The card, under a short name, for the claim. -/
theorem tallyPlays_holds : Rows.TallyPlaysCardSaid := tallyPlays.card
end Go.Proofs.YtdckcophbmnjjaaGreatDoor
