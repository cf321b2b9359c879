/- A range over a function: the loop's record in memory; one round; the statement. One slice behind another: what append leaves as it was. An object that owns one slice: what a step leaves; type assertions. The reckoning's rules, in few words. A slice behind a slice; empty places behind a slice. -/
import Derived.Test.YtdckcophbmnjjaaGreatDoorLg7
import Derived.RangeFuncRecord
import Derived.RangeFuncNested
import Derived.Test.YtdckcophbmnjjaaGreatDoorLg6
set_option linter.all false
namespace Go.Proofs.YtdckcophbmnjjaaGreatDoor.Ab
open Go

/-! ### The record turns -/
theorem obj_ext {m : Heap} {w : World} {b : Nat} {x y : ABlk} {o' : Obj} (hb : m b = some x) : Ext m w (hupd m b y) (w.putObj b o') :=
  ⟨by simp, rfl, rfl, ⟨rfl, Nat.le_refl _⟩, fun c hc hm => by
    have : c ≠ b := fun e => by rw [e, hb] at hm; cases hm
    exact ⟨World.putObj_heap_other this, by simp only [hupd]; rw [if_neg this]; exact hm⟩⟩
theorem obj_sat {m : Heap} {w : World} {b : Nat} {x y : ABlk} {o' : Obj} (hs : Sat m w) (hb : m b = some x) (hy : BRel (hupd m b y) (w.putObj b o') y (some o')) : Sat (hupd m b y) (w.putObj b o') := by
  intro c z hz
  simp only [hupd] at hz
  split at hz
  · rename_i e; subst e
    obtain rfl : y = z := by simpa using hz
    rw [World.putObj_heap_same (hs.lt hb)]; exact hy
  · rename_i e
    rw [World.putObj_heap_other e]
    exact (hs c z hz).ext (obj_ext hb)
theorem loop_turn {m : Heap} {w : World} {l : Nat} {N : Nat} {ts : TS} {ps : Array Tmp} {a b : Code} {st st' : LoopState} {pe pe' : Option Code} (hs : Sat m w) (hl : m l = some (.loop N ts ps a b st pe)) :
    ∃ r : Loop, w.heap[l]? = some (.loop r) ∧ r.state = st ∧ r.pending = pe ∧ r.params = ps ∧ r.assign = a ∧ r.body = b ∧ (r.tmps.size = N ∧ ∀ t, VRel m w (ts t) (r.tmps.getD t Go.undef)) ∧
      Sat (hupd m l (.loop N ts ps a b st' pe')) (w.putObj l (.loop { r with state := st', pending := pe' })) ∧ Ext m w (hupd m l (.loop N ts ps a b st' pe')) (w.putObj l (.loop { r with state := st', pending := pe' })) := by
  obtain ⟨fn, tmps, D, h1, h2, h3⟩ := hs l _ hl
  have e := obj_ext (w := w) (y := .loop N ts ps a b st' pe') (o' := .loop { state := st', pending := pe', fn, tmps, params := ps, assign := a, body := b, defers := D }) hl
  exact ⟨_, h1, rfl, rfl, rfl, rfl, rfl, ⟨h2, h3⟩, obj_sat hs hl ⟨fn, tmps, D, rfl, h2, fun t => (h3 t).ext e⟩, e⟩

/-! ### A round -/
/-- Where a round's body is left. -/
def roundA (N : Nat) (ts : TS) (ps : Array Tmp) (a b : Code) (l : Nat) (K : AVal → Heap → Prop) : Exit → TS → Heap → Prop
  | .normal, _, m => m l = some (.loop N ts ps a b .busy none) ∧ K (.bool true) (hupd m l (.loop N ts ps a b .ready none))
  | .ret, _, m => m l = some (.loop N ts ps a b .busy none) ∧ K (.bool false) (hupd m l (.loop N ts ps a b .done (some .ret)))
  | .exit id, _, m => m l = some (.loop N ts ps a b .busy none) ∧ K (.bool false) (hupd m l (.loop N ts ps a b .done (some (.exit id))))
  | .goto t, _, m => m l = some (.loop N ts ps a b .busy none) ∧ K (.bool false) (hupd m l (.loop N ts ps a b .done (some (.goto t))))
  | _, _, _ => False
/-- The loop's variables. -/
def puts : List Tmp → List AVal → TS → TS
  | p :: ps, v :: vs, ts => puts ps vs (upd ts p v)
  | _, _, ts => ts
theorem puts_rel {m : Heap} {w : World} {N : Nat} : ∀ (ps : List Tmp) (vs : List AVal) (cs : List Value) (ts : TS) (tmps : Array Value), (∀ p, p ∈ ps → p < N) → vs.length = cs.length → (∀ i, i < vs.length → VRel m w (vs.getD i .undef) (cs.getD i Go.undef)) →
    (tmps.size = N ∧ ∀ t, VRel m w (ts t) (tmps.getD t Go.undef)) →
    ((ps.zip cs).foldl (fun t (p, v) => t.setIfInBounds p v) tmps).size = N ∧ ∀ t, VRel m w (puts ps vs ts t) (((ps.zip cs).foldl (fun t (p, v) => t.setIfInBounds p v) tmps).getD t Go.undef)
  | [], vs, cs, ts, tmps, _, _, _, h => by simpa [puts] using h
  | p :: ps, [], cs, ts, tmps, _, hl, _, h => by
    have : cs = [] := List.eq_nil_of_length_eq_zero (by simpa using hl.symm)
    subst this; simpa [puts] using h
  | p :: ps, v :: vs, [], ts, tmps, _, hl, _, h => by simp at hl
  | p :: ps, v :: vs, c :: cs, ts, tmps, hp, hl, hv, h => by
    simp only [List.zip_cons_cons, List.foldl_cons, puts]
    refine puts_rel ps vs cs _ _ (fun q hq => hp q (by simp [hq])) (by simpa using hl) (fun i hi => by simpa using hv (i + 1) (by simpa using hi)) ?_
    have ht : TRel N m w ts { tmps := tmps, defers := [] } := ⟨h.1, h.2⟩
    have hv0 : VRel m w v c := by simpa using hv 0 (by simp)
    have := ht.put (d := some p) (fun i hi => by cases hi; exact hp p (by simp)) hv0
    exact ⟨this.size, this.vals⟩
/-- One round. -/
theorem yield_of {P : Program} {G : Nat → AVal} {l : Nat} {args : List AVal} {m : Heap} {K : AVal → Heap → Prop} {N : Nat} {ts : TS} {ps : Array Tmp} {a b : Code} (hm : m l = some (.loop N ts ps a b .ready none)) (hn : args.length = ps.size) (hp : ps.all (· < N) = true)
    (h : run P G N (some l) a (thenA (fun ts1 m1 => m1 l = some (.loop N ts ps a b .ready none) ∧ run P G N (some l) b (roundA N ts ps a b l K) ts1 (hupd m1 l (.loop N ts ps a b .busy none))) (fun _ _ _ => False)) (puts ps.toList args ts) m) :
    YieldWP P G l args m K := by
  intro w cargs hs hg hl hv
  obtain ⟨r, h1, h2, h3, h4, h5, h6, h7, -, -⟩ := loop_turn (st' := .ready) (pe' := none) hs hm
  have hy := run_yield (P := P) (args := cargs) h1 (by rw [h4]; omega)
  refine ⟨r.fn, _, r.assign, r.body, hy, roundIn_of_wpIn trivial ?_⟩
  rw [h5, h6, h4]
  have hpz : (ps.zip cargs).foldl (fun tmps (t, a) => tmps.setIfInBounds t a) r.tmps = (ps.toList.zip cargs.toList).foldl (fun t (p, v) => t.setIfInBounds p v) r.tmps := by
    rw [← Array.foldl_toList, Array.toList_zip]
  have hall : ∀ p, p ∈ ps.toList → p < N := by
    intro p hpm
    have := Array.all_eq_true_iff_forall_mem.1 hp p (by simpa using hpm)
    simpa using this
  have hv' : ∀ i, i < args.length → VRel m w (args.getD i .undef) (cargs.toList.getD i Go.undef) := fun i hi => by
    have := hv i hi
    rw [Array.getD_eq_getD_getElem?] at this
    simpa [List.getD_eq_getElem?_getD] using this
  have hrel := puts_rel ps.toList args cargs.toList ts r.tmps hall (by simpa using hl) hv' h7
  rw [← hpz] at hrel
  have hrun := run_sound (r := some l) a _ _ m h 0 w { tmps := (ps.zip cargs).foldl (fun tmps (t, a) => tmps.setIfInBounds t a) r.tmps, defers := [] } (Nat.zero_le _) hs hg ⟨hrel.1, hrel.2⟩ trivial
  refine wpIn_mono hrun ?_
  rintro e a1 w1 ⟨ts1, m1, hk, hs1, ht1, he1, hd1⟩
  cases e with
  | normal =>
    obtain ⟨hm1, hbody⟩ := hk
    obtain ⟨r1, k1, k2, k3, k4, k5, k6, k7, k8, k9⟩ := loop_turn (st' := .busy) (pe' := none) hs1 hm1
    have hpend : ({ r1 with state := .busy, pending := none } : Loop) = { r1 with state := .busy } := by rw [← k3]
    rw [hpend] at k8 k9
    refine ⟨_, run_beginRound k1 k2, ?_⟩
    have hrun2 := run_sound (r := some l) b _ _ _ hbody 0 _ a1 (Nat.zero_le _) k8 ((hg.ext he1).ext k9) (ht1.ext k9) (hd1.ext k9)
    refine wpIn_mono hrun2 ?_
    have fin : ∀ (jump : Option Code) (m2 : Heap) (w2 : World), m2 l = some (.loop N ts ps a b .busy none) → K (.bool jump.isNone) (hupd m2 l (.loop N ts ps a b (if jump.isNone then .ready else .done) jump)) → Sat m2 w2 → Ext (hupd m1 l (.loop N ts ps a b .busy none)) (w1.putObj l (.loop { r1 with state := .busy })) m2 w2 →
        ∃ u w', (Instr.endRound l jump).run P w2 = .ok u w' ∧ ∃ cv v m', Ending.returned u = .returned cv ∧ K v m' ∧ VRel m' w' v cv ∧ Sat m' w' ∧ Ext m w m' w' := by
      intro jump m2 w2 hm2 hK hs2 he2
      obtain ⟨r2, j1, j2, j3, j4, j5, j6, j7, j8, j9⟩ := loop_turn (st' := if jump.isNone then .ready else .done) (pe' := jump) hs2 hm2
      exact ⟨_, _, run_endRound jump j1, _, _, _, rfl, hK, .bool _, j8, ((he1.trans k9).trans he2).trans j9⟩
    rintro e a2 w2 ⟨ts2, m2, hk2, hs2, ht2, he2, hd2⟩
    cases e with
    | normal => obtain ⟨v, w', q1, q2⟩ := fin none m2 w2 hk2.1 hk2.2 hs2 he2; exact ⟨v, w', q1, q2⟩
    | ret => obtain ⟨v, w', q1, q2⟩ := fin (some .ret) m2 w2 hk2.1 hk2.2 hs2 he2; exact ⟨v, w', q1, q2⟩
    | exit id => obtain ⟨v, w', q1, q2⟩ := fin (some (.exit id)) m2 w2 hk2.1 hk2.2 hs2 he2; exact ⟨v, w', q1, q2⟩
    | goto t => obtain ⟨v, w', q1, q2⟩ := fin (some (.goto t)) m2 w2 hk2.1 hk2.2 hs2 he2; exact ⟨v, w', q1, q2⟩
    | panic c => exact hk2.elim
    | outgrown => exact hk2.elim
  | _ => exact hk.elim

/-! ### The statement -/
/-- Where the function that was ranged over has returned: what a round has asked for comes next; what was made may be forgotten. -/
def rangeA (P : Program) (G : Nat → AVal) (N : Nat) (r : Option Nat) (Q : Exit → TS → Heap → Prop) (ts : TS) (l : Nat) : AVal → Heap → Prop := fun _ m' =>
  ∃ N' ts' ps a b st pe m1, m' l = some (.loop N' ts' ps a b st pe) ∧ st ≠ .busy ∧ Sub m1 m' ∧ m1 l = none ∧ (match pe with
    | none => Q .normal ts m1
    | some c => run P G N r c Q ts m1)
theorem range_end {P : Program} {G : Nat → AVal} {N B : Nat} {r : Option Nat} {Q : Exit → TS → Heap → Prop} {ts : TS} {l : Nat} {m : Heap} {w : World} {m0 : Heap} {w0 : World} {ac : Act} {v : AVal} (hB : B ≤ w0.heap.size) (hr : rangeA P G N r Q ts l v m) (hs : Sat m w) (he : Ext m0 w0 m w) (hl : w0.heap.size ≤ l) (hg : GOk G m0 w0) (ht : TRel N m0 w0 ts ac) (hd : ∀ m1, Sub m1 m → m1 l = none → ∀ w', Ext m0 w0 m1 w' → (∀ b, b ≠ l → w'.heap[b]? = w.heap[b]?) → DefOK B m1 w' ac.defers) :
    ∃ jump w', (Instr.endLoop l).run P w = .ok jump w' ∧ (match jump with
      | none => QL N B m0 w0 Q .normal ac w'
      | some c => c.wpIn (W r) 0 P (QL N B m0 w0 Q) ac w') := by
  obtain ⟨N', ts', ps, a, b, st, pe, m1, h1, h2, h3, h4, h5⟩ := hr
  obtain ⟨rc, k1, k2, k3, k4, k5, k6, k7, k8, k9⟩ := loop_turn (st' := .exhausted) (pe' := pe) hs h1
  have hrun := run_endLoop (P := P) k1 (by rw [k2]; exact h2)
  rw [k3] at hrun
  refine ⟨pe, _, hrun, ?_⟩
  have s1 : Sub m1 (hupd m l (.loop N' ts' ps a b .exhausted pe)) := fun p x hx => by
    have : p ≠ l := fun e => by rw [e, h4] at hx; cases hx
    simp only [hupd]; rw [if_neg this]; exact h3 p x hx
  have e1 : Ext m0 w0 m1 _ := (he.trans k9).sub s1
  have d1 := hd m1 h3 h4 _ e1 (fun b hb => World.putObj_heap_other hb)
  cases pe with
  | none => exact ⟨ts, m1, h5, k8.sub s1, ht.ext e1, e1, d1⟩
  | some c =>
    refine wpIn_mono (run_sound c Q ts m1 h5 B _ ac (Nat.le_trans hB e1.size) (k8.sub s1) (hg.ext e1) (ht.ext e1) d1) ?_
    exact fun _ _ _ h => QL.trans e1 h
theorem calls_of {P : Program} {G : Nat → AVal} {f : FuncId} {args : List AVal} {m : Heap} {K : AVal → Heap → Prop} (he : enters P f = true) (h : CallWP P G f args m K) {w : World} {cargs : Array Value} (hs : Sat m w) (hg : GOk G m w) (hl : args.length = cargs.size) (hv : ∀ i, i < args.length → VRel m w (args.getD i .undef) (cargs.getD i Go.undef)) :
    Calls P f cargs w fun e w' => ∃ cv v m', e = .returned cv ∧ K v m' ∧ VRel m' w' v cv ∧ Sat m' w' ∧ Ext m w m' w' := by
  rcases h with h | h
  · exact h.2 w cargs hs hg hl hv
  · obtain ⟨x, v, m', h1, _⟩ := h w cargs hs hg hl hv
    rw [run_enters he] at h1; cases h1
/-- A range over a function, no round being under way. -/
theorem awp_range {P : Program} {G : Nat → AVal} {N : Nat} {g : Operand} {ps : Array Tmp} {a b : Code} {Q : Exit → TS → Heap → Prop} {ts : TS} {m : Heap} {gf : FuncId} {fs cs : List AVal} (hge : ev G ts g = .func (.func gf) fs cs) (hen : enters P gf = true)
    (h : ∀ l, m l = none → CallWP P G gf (fs ++ [.func (.yield l) [] []] ++ cs) (hupd m l (.loop N ts ps a b .ready none)) (rangeA P G N none Q ts l)) : AWP P G N none (.rangeFunc g ps a b) Q ts m := by
  intro B w ac hB hs hg ht hd
  refine wpIn_rangeFunc ?_
  intro fn _
  have hev := ev_rel hg ht g
  rw [hge] at hev
  obtain ⟨fs', cs', ea, l1, l2, v1, v2⟩ : ∃ fs' cs', ac.eval g = .func (.func gf) fs' cs' ∧ fs.length = fs'.size ∧ cs.length = cs'.size ∧
      (∀ i, i < fs.length → VRel m w (fs.getD i .undef) (fs'.getD i Go.undef)) ∧ (∀ i, i < cs.length → VRel m w (cs.getD i .undef) (cs'.getD i Go.undef)) := by
    revert hev; generalize ac.eval g = z; intro hev
    cases hev with
    | func _ _ _ fs' cs' l1 l2 v1 v2 => exact ⟨fs', cs', rfl, l1, l2, v1, v2⟩
  -- the block for deferred calls, and the record
  have a1 := alloc_step hs (.deferred (some [])) (.obj (.deferred (some []))) (fun _ _ _ => rfl)
  have s0 : Sub m (hupd m w.heap.size (.obj (.deferred (some [])))) := Sub.fresh (Sub.refl _) hs.fresh
  have hs1 := a1.1.sub s0
  have he1 := a1.2.sub s0
  have hsz : (w.alloc (.deferred (some []))).heap.size = w.heap.size + 1 := World.size_alloc ..
  have a2 := alloc_step hs1 (.loop { state := .ready, pending := none, fn, tmps := ac.tmps, params := ps, assign := a, body := b, defers := w.heap.size }) (.loop N ts ps a b .ready none)
    (fun m' w' e => ⟨fn, ac.tmps, w.heap.size, rfl, ht.size, fun t => ((ht.vals t).ext he1).ext e⟩)
  rw [hsz] at a2
  have e2 := he1.trans a2.2
  have hml : m (w.heap.size + 1) = none := by
    cases hx : m (w.heap.size + 1) with
    | none => rfl
    | some x => have := hs.lt hx; omega
  obtain ⟨q1, q2⟩ := ap_rel fs [.func (.yield (w.heap.size + 1)) [] []] fs' #[.func (.yield (w.heap.size + 1)) #[] #[]] l1 rfl (fun i hi => (v1 i hi).ext e2) (fun i hi => by
    have : i = 0 := by simp at hi; exact hi
    subst this
    exact .func _ _ _ _ _ rfl rfl (fun i hi => by simp at hi) (fun i hi => by simp at hi))
  obtain ⟨q3, q4⟩ := ap_rel _ cs _ cs' q1 l2 q2 (fun i hi => (v2 i hi).ext e2)
  refine ⟨w.heap.size + 1, [{ target := .collected w.heap.size, args := #[] }], ((w.alloc (.deferred (some []))).alloc (.loop { state := .ready, pending := none, fn, tmps := ac.tmps, params := ps, assign := a, body := b, defers := w.heap.size })), { target := .fn (.func gf) cs', args := fs' ++ #[.func (.yield (w.heap.size + 1)) #[] #[]] }, ((w.alloc (.deferred (some []))).alloc (.loop { state := .ready, pending := none, fn, tmps := ac.tmps, params := ps, assign := a, body := b, defers := w.heap.size })), gf,
    fs' ++ #[.func (.yield (w.heap.size + 1)) #[] #[]] ++ cs', ((w.alloc (.deferred (some []))).alloc (.loop { state := .ready, pending := none, fn, tmps := ac.tmps, params := ps, assign := a, body := b, defers := w.heap.size })), run_enterLoop_outer fn ac.tmps ps a b, ?_, fun _ _ => trivial, ?_, fun hdep => by simp [W] at hdep, ?_⟩
  · simp only [resolve, ea]
    simp only [Deferred.ofValue, Sem.run_pure, List.map_toArray, List.map_cons, List.map_nil, Act.eval]
  · simp only [invoke, run_enters hen]
  · have hcalls := calls_of hen (h _ hml) a2.1 (hg.ext e2) q3 q4
    refine (callsIn_wide (n := 0 - 1).2 hcalls).mono ?_
    rintro e w3 ⟨cv, v, m3, rfl, hk, hv, hs3, he3⟩
    have e03 : Ext m w m3 w3 := e2.trans he3
    have hD : m3 w.heap.size = none ∧ w3.heap[w.heap.size]? = some (.deferred (some [])) := by
      have hD2 : hupd m (w.heap.size + 1) (.loop N ts ps a b .ready none) w.heap.size = none := by
        simp only [hupd]; rw [if_neg (by omega)]; exact hs.fresh
      have := he3.keep w.heap.size (by rw [World.size_alloc, World.size_alloc]; omega) hD2
      refine ⟨this.2, this.1.trans ?_⟩
      rw [Go.RowKit.Below.heap_alloc _ _ _ (by simp), World.alloc_heap_new]
    have := range_end (B := B) (ac := { ac with defers := { target := .collected w.heap.size, args := #[] } :: ac.defers }) hB hk hs3 e03 (by omega) hg ⟨ht.size, ht.vals⟩ (fun m1 s1 hl1 w' ew hw => by
      refine ⟨⟨w.heap.size, rfl, hB, s1.gone hD.1, (hw _ (by omega)).trans hD.2, fun d' hd' hdd => ?_⟩, hd.ext ew⟩
      have key : ∀ ds : List Deferred, DefOK B m w ds → d' ∈ ds → False := by
        intro ds
        induction ds with
        | nil => intro _ h; cases h
        | cons d ds ih =>
          rintro ⟨⟨D, h1, _, h2, h3, _⟩, h4⟩ hmem
          rcases List.mem_cons.1 hmem with rfl | hmem
          · rw [h1] at hdd
            simp only [Deferred.mk.injEq, Target.collected.injEq, and_true] at hdd
            have := (Array.getElem?_eq_some_iff.1 h3).1
            omega
          · exact ih h4 hmem
      exact key _ hd hd')
    obtain ⟨jump, w4, j1, j2⟩ := this
    exact ⟨jump, w4, j1, j2⟩
/-- A range over a function within a round. -/
theorem awp_rangeIn {P : Program} {G : Nat → AVal} {N : Nat} {l0 : Nat} {g : Operand} {ps : Array Tmp} {a b : Code} {Q : Exit → TS → Heap → Prop} {ts : TS} {m : Heap} {gf : FuncId} {fs cs : List AVal} (hl0 : ∃ N0 ts0 ps0 a0 b0 st0 pe0, m l0 = some (.loop N0 ts0 ps0 a0 b0 st0 pe0)) (hge : ev G ts g = .func (.func gf) fs cs) (hen : enters P gf = true)
    (h : ∀ l, m l = none → CallWP P G gf (fs ++ [.func (.yield l) [] []] ++ cs) (hupd m l (.loop N ts ps a b .ready none)) (rangeA P G N (some l0) Q ts l)) : AWP P G N (some l0) (.rangeFunc g ps a b) Q ts m := by
  intro B w ac hB hs hg ht hd
  refine wpIn_rangeFunc ?_
  intro fn _
  have hev := ev_rel hg ht g
  rw [hge] at hev
  obtain ⟨fs', cs', ea, l1, l2, v1, v2⟩ : ∃ fs' cs', ac.eval g = .func (.func gf) fs' cs' ∧ fs.length = fs'.size ∧ cs.length = cs'.size ∧
      (∀ i, i < fs.length → VRel m w (fs.getD i .undef) (fs'.getD i Go.undef)) ∧ (∀ i, i < cs.length → VRel m w (cs.getD i .undef) (cs'.getD i Go.undef)) := by
    revert hev; generalize ac.eval g = z; intro hev
    cases hev with
    | func _ _ _ fs' cs' l1 l2 v1 v2 => exact ⟨fs', cs', rfl, l1, l2, v1, v2⟩
  obtain ⟨N0, ts0, ps0, a0, b0, st0, pe0, hl0⟩ := hl0
  obtain ⟨r0, hr0, -⟩ := loop_turn (st' := .ready) (pe' := none) hs hl0
  have a2 := alloc_step hs (.loop { state := .ready, pending := none, fn, tmps := ac.tmps, params := ps, assign := a, body := b, defers := r0.defers }) (.loop N ts ps a b .ready none)
    (fun m' w' e => ⟨fn, ac.tmps, r0.defers, rfl, ht.size, fun t => (ht.vals t).ext e⟩)
  have e2 := a2.2
  obtain ⟨q1, q2⟩ := ap_rel fs [.func (.yield w.heap.size) [] []] fs' #[.func (.yield w.heap.size) #[] #[]] l1 rfl (fun i hi => (v1 i hi).ext e2) (fun i hi => by
    have : i = 0 := by simp at hi; exact hi
    subst this
    exact .func _ _ _ _ _ rfl rfl (fun i hi => by simp at hi) (fun i hi => by simp at hi))
  obtain ⟨q3, q4⟩ := ap_rel _ cs _ cs' q1 l2 q2 (fun i hi => (v2 i hi).ext e2)
  refine ⟨w.heap.size, [], (w.alloc (.loop { state := .ready, pending := none, fn, tmps := ac.tmps, params := ps, assign := a, body := b, defers := r0.defers })), { target := .fn (.func gf) cs', args := fs' ++ #[.func (.yield w.heap.size) #[] #[]] }, (w.alloc (.loop { state := .ready, pending := none, fn, tmps := ac.tmps, params := ps, assign := a, body := b, defers := r0.defers })), gf,
    fs' ++ #[.func (.yield w.heap.size) #[] #[]] ++ cs', (w.alloc (.loop { state := .ready, pending := none, fn, tmps := ac.tmps, params := ps, assign := a, body := b, defers := r0.defers })), run_enterLoop_inner hr0 fn ac.tmps ps a b, ?_, fun _ _ => trivial, ?_, fun hdep => by simp [W] at hdep, ?_⟩
  · simp only [resolve, ea]
    simp only [Deferred.ofValue, Sem.run_pure, List.map_toArray, List.map_cons, List.map_nil, Act.eval]
  · simp only [invoke, run_enters hen]
  · have hcalls := calls_of hen (h _ hs.fresh) a2.1 (hg.ext e2) q3 q4
    refine (callsIn_wide (n := 0 - 1).2 hcalls).mono ?_
    rintro e w3 ⟨cv, v, m3, rfl, hk, hv, hs3, he3⟩
    have e03 : Ext m w m3 w3 := e2.trans he3
    have := range_end (B := B) (ac := ac) hB hk hs3 e03 (Nat.le_refl _) hg ht (fun m1 s1 hl1 w' ew hw => hd.ext ew)
    obtain ⟨jump, w4, j1, j2⟩ := this
    exact ⟨jump, w4, j1, j2⟩
end Go.Proofs.YtdckcophbmnjjaaGreatDoor.Ab
namespace Go.Proofs.YtdckcophbmnjjaaGreatDoor.Ab
open Go
/-- The block that a value leads to. -/
def bOf : AVal → Option Nat
  | .ptr b _ => some b
  | .slice b _ _ _ => some b
  | _ => none
/-- What other blocks hold stays; the new value's block is new, or the old one's. -/
def AppFr (v : AVal) (m : Heap) (v' : AVal) (m' : Heap) : Prop := (∀ x, bOf v ≠ some x → m x ≠ none → m' x = m x) ∧ ∀ b, bOf v' = some b → m b = none ∨ bOf v = some b
theorem AppFr.refl (v : AVal) (m : Heap) : AppFr v m v m := ⟨fun _ _ _ => rfl, fun _ h => .inr h⟩
/-- What is held beside the slice goes on. -/
theorem AppFr.sub {mb m m' : Heap} {v v' : AVal} (h : AppFr v m v' m') (s : Sub mb m) (hv : ∀ b, bOf v = some b → mb b = none) : Sub mb m' ∧ ∀ b, bOf v' = some b → mb b = none := by
  refine ⟨fun x y hx => ?_, fun b hb => ?_⟩
  · have h1 := s x y hx
    rw [h.1 x (fun e => by rw [hv x e] at hx; cases hx) (by rw [h1]; simp)]
    exact h1
  · rcases h.2 b hb with h1 | h1
    · exact s.gone h1
    · exact hv b h1
section
variable {α : Type} {enc : α → List AVal} {sz : Nat}
theorem SlM.slv {C : List α} {v : AVal} {m : Heap} (h : SlM enc sz C v m) : (v = .nils ∧ C = []) ∨ ∃ b o cap, v = .slice b o C.length cap := by
  rcases h with h | ⟨b, blk, hb, pre, post, N, cap, rfl, _⟩
  · exact .inl h
  · exact .inr ⟨_, _, _, rfl⟩
theorem SlM.keep {C : List α} {v : AVal} {m m' : Heap} (h : SlM enc sz C v m) (hk : ∀ b, bOf v = some b → m' b = m b) : SlM enc sz C v m' := by
  rcases h with h | ⟨b, blk, hb, hv⟩
  · exact .inl h
  · refine .inr ⟨b, blk, (hk b ?_).trans hb, hv⟩
    obtain ⟨pre, post, N, cap, rfl, _⟩ := hv; rfl
theorem SlM.into {C : List α} {v : AVal} {m m' : Heap} (h : SlM enc sz C v m) (s : Sub m m') : SlM enc sz C v m' := by
  rcases h with h | ⟨b, blk, hb, hv⟩
  · exact .inl h
  · exact .inr ⟨b, blk, s _ _ hb, hv⟩
theorem SlM.at' {C : List α} {v : AVal} {m : Heap} (h : SlM enc sz C v m) (h0 : 0 < C.length) : ∃ b pre post N cap, m b = some (.cells (pre ++ (C.flatMap enc ++ post)) N) ∧ v = .slice b pre.length C.length cap ∧ pre.length + cap * sz ≤ N ∧ C.length ≤ cap := by
  rcases h with ⟨_, rfl⟩ | ⟨b, blk, hb, pre, post, N, cap, rfl, rfl, h1, h2⟩
  · simp at h0
  · exact ⟨b, pre, post, N, cap, hb, rfl, h1, h2⟩
theorem appN {P : Program} {st xt e : TypeId} {a : Bool} {by' : Nat} {v : AVal} {m : Heap} {K : AVal → Heap → Prop} {b N cap : Nat} {pre post : List AVal} {C E : List α}
    (h1 : P.underlying st = some (.slice e)) (h2 : tk P e = some (a, sz)) (h3 : eb P e = some by') (h4 : zl P e = some sz) (h5 : 0 < by') (h6 : (P.underlying xt).isSome = true) (h7 : isInt P xt = false)
    (henc : ∀ a, (enc a).length = sz) (hfl : (E.flatMap enc).all AVal.flat = true) (hb : m b = some (.cells (pre ++ (E.flatMap enc ++ post)) N)) (hs : SlM enc sz C v m) (hlen : (C.length + E.length) * by' ≤ 1099511627776)
    (hK : ∀ v' m', SlM enc sz (C ++ E) v' m' → AppFr v m v' m' → K v' m') : aappend P st xt v (.slice b pre.length E.length cap) m K := by
  refine app_step h1 h2 h3 h4 h5 h6 h7 ?_
  have el : (E.flatMap enc).length = E.length * sz := flat_len henc E
  simp only [src, hb]
  refine ⟨by rw [List.length_append, List.length_append, el]; omega, ?_⟩
  rw [List.drop_left, ← el, List.take_left]
  refine ⟨hfl, ?_⟩
  by_cases h0 : 0 < E.length
  · refine app_to henc hs h0 hlen (fun b' v' blk hbf hv => hK v' _ (.inr ⟨b', blk, by simp [hupd], hv⟩) ⟨fun x hx hm => ?_, fun c hc => ?_⟩)
    · have : x ≠ b' := by
        rintro rfl
        rcases hbf with h | ⟨o, l, c, rfl⟩
        · exact hm h
        · exact hx rfl
      simp only [hupd]; rw [if_neg this]
    · obtain ⟨p1, p2, p3, p4, rfl, _⟩ := hv
      simp only [bOf, Option.some.injEq] at hc
      subst hc
      rcases hbf with h | ⟨o, l, c, rfl⟩
      · exact .inl h
      · exact .inr rfl
  · have hE : E = [] := List.eq_nil_of_length_eq_zero (by omega)
    subst hE
    rw [List.append_nil] at hK
    rcases hs with ⟨rfl, rfl⟩ | ⟨b', blk, hb', pre', post', N', cap', rfl, rfl, hN, hc⟩
    · simp only [appTo]
      exact ⟨fun _ => hK .nils m (.inl ⟨rfl, rfl⟩) (AppFr.refl _ _), fun h => absurd h (by simp)⟩
    · have el' : (C.flatMap enc).length = C.length * sz := flat_len henc C
      simp only [appTo, hb']
      refine ⟨⟨by rw [List.length_append, List.length_append, el']; omega, hN⟩, fun _ => ?_, fun h => absurd h (by simp; omega)⟩
      have e1 : splice (pre' ++ (C.flatMap enc ++ post')) (pre'.length + C.length * sz) (List.flatMap enc []) = pre' ++ (C.flatMap enc ++ post') := by unfold splice; simp only [List.flatMap_nil, List.append_nil, List.length_nil, Nat.add_zero, List.take_append_drop]
      rw [e1]
      refine hK _ _ (.inr ⟨b', _, by simp [hupd], pre', post', N', cap', rfl, rfl, hN, hc⟩) ⟨fun x _ _ => ?_, fun c hc => .inr hc⟩
      simp only [hupd]
      split
      · rename_i e; rw [e, hb']
      · rfl
/-- One more behind a slice: it lies in a block of its own. -/
theorem app1 {P : Program} {st xt e : TypeId} {a : Bool} {by' : Nat} {v : AVal} {m : Heap} {K : AVal → Heap → Prop} {b cap : Nat} {C : List α} {x : α}
    (h1 : P.underlying st = some (.slice e)) (h2 : tk P e = some (a, sz)) (h3 : eb P e = some by') (h4 : zl P e = some sz) (h5 : 0 < by') (h6 : (P.underlying xt).isSome = true) (h7 : isInt P xt = false)
    (henc : ∀ a, (enc a).length = sz) (hfl : (enc x).all AVal.flat = true) (hb : ∃ N, m b = some (.cells (enc x) N)) (hs : SlM enc sz C v m) (hlen : (C.length + 1) * by' ≤ 1099511627776)
    (hK : ∀ v' m', SlM enc sz (C ++ [x]) v' m' → AppFr v m v' m' → K v' m') : aappend P st xt v (.slice b 0 1 cap) m K := by
  obtain ⟨N, hb⟩ := hb
  exact appN (pre := []) (post := []) (E := [x]) (N := N) h1 h2 h3 h4 h5 h6 h7 henc (by simpa using hfl) (by simpa using hb) hs (by simpa using hlen) hK
end
end Go.Proofs.YtdckcophbmnjjaaGreatDoor.Ab
namespace Go.Proofs.YtdckcophbmnjjaaGreatDoor.Ab
open Go
section
variable {P : Program} {G : Nat → AVal} {e : Operand → AVal} {m : Heap} {K : AVal → Heap → Prop}
theorem go_typeAssert (x : Operand) (xt t : TypeId) (ok : Bool) : opGo P G e (.typeAssert x xt t ok) m K = (aassert P t ok (e x)).run m K := rfl
theorem den_typeAssert (x : Operand) (xt t : TypeId) (ok : Bool) : den P e (.typeAssert x xt t ok) = aassert P t ok (e x) := rfl
end
attribute [go_sem ↓] go_typeAssert
attribute [go_sem] den_typeAssert aassert aiface
/-- What other blocks hold stays; the new value's block is new, or the old one's. -/
def Fr (p : Nat) (v : AVal) (m : Heap) (v' : AVal) (m' : Heap) : Prop := (∀ x, x ≠ p → bOf v ≠ some x → m x ≠ none → m' x = m x) ∧ ∀ b, bOf v' = some b → m b = none ∨ bOf v = some b
theorem Fr.refl (p : Nat) (v : AVal) (m : Heap) : Fr p v m v m := ⟨fun _ _ _ _ => rfl, fun _ h => .inr h⟩
theorem Fr.trans {p : Nat} {v v1 v2 : AVal} {m m1 m2 : Heap} (h : Fr p v m v1 m1) (hp : m1 p ≠ none) (k : Fr p v1 m1 v2 m2) : Fr p v m v2 m2 := by
  refine ⟨fun x hx hv hm => ?_, fun b hb => ?_⟩
  · have h1 := h.1 x hx hv hm
    rw [k.1 x hx (fun e => (h.2 x e).elim hm hv) (by rw [h1]; exact hm), h1]
  · rcases k.2 b hb with h1 | h1
    · cases hm : m b with
      | none => exact .inl rfl
      | some y =>
        right
        cases hbv : decide (bOf v = some b) with
        | true => exact of_decide_eq_true hbv
        | false =>
          have hbv' := of_decide_eq_false hbv
          have hbp : b ≠ p := fun e => hp (by rw [← e]; exact h1)
          have := h.1 b hbp hbv' (by rw [hm]; simp)
          rw [h1, hm] at this; cases this
    · exact h.2 b h1
theorem Fr.into {p : Nat} {v v' : AVal} {m m1 m' : Heap} (h : Fr p v m1 v' m') (s : Sub m m1) : Fr p v m v' m' := by
  refine ⟨fun x hx hv hm => ?_, fun b hb => (h.2 b hb).imp (fun e => s.gone e) id⟩
  cases hm1 : m x with
  | none => exact absurd hm1 hm
  | some y => rw [h.1 x hx hv (by rw [s x y hm1]; simp), s x y hm1]
theorem Fr.holds {p : Nat} {v v' : AVal} {m m' : Heap} (h : Fr p v m v' m') {b : Nat} {y : ABlk} (hb : m b = some y) (h1 : b ≠ p) (h2 : bOf v ≠ some b) : m' b = some y := by
  rw [h.1 b h1 h2 (by rw [hb]; simp), hb]
/-- A block that was made ahead of a step may be written. -/
theorem Fr.fresh {p : Nat} {v v' : AVal} {m m' : Heap} (h : Fr p v m v' m') {b : Nat} (y : ABlk) (hb : m b = none) : Fr p v m v' (hupd m' b y) :=
  ⟨fun x hx hv hm => by
    have : x ≠ b := fun e => hm (by rw [e]; exact hb)
    simp only [hupd]; rw [if_neg this]; exact h.1 x hx hv hm, h.2⟩
/-- An object: cells ahead, a slice, cells behind it. -/
structure Ob {α : Type} (enc : α → List AVal) (sz : Nat) (m : Heap) (p : Nat) (a b : List AVal) (N : Nat) (v : AVal) (L : List α) : Prop where
  at_ : m p = some (.cells (a ++ v :: b) N)
  row : SlM enc sz L v m
  ne : bOf v ≠ some p
section
variable {α : Type} {enc : α → List AVal} {sz : Nat} {m m' : Heap} {p : Nat} {a b : List AVal} {N : Nat} {v : AVal} {L : List α}
theorem Ob.slb (h : Ob enc sz m p a b N v L) {c : Nat} (hc : bOf v = some c) : m c ≠ none := by
  rcases h.row with ⟨rfl, _⟩ | ⟨c', blk, hb', pre, post, N', cap, rfl, _⟩
  · cases hc
  · simp only [bOf, Option.some.injEq] at hc; subst hc; rw [hb']; simp
theorem Ob.keep (h : Ob enc sz m p a b N v L) (hp : m' p = m p) (hq : ∀ c, bOf v = some c → m' c = m c) : Ob enc sz m' p a b N v L :=
  ⟨hp.trans h.at_, h.row.keep hq, h.ne⟩
theorem Ob.into (h : Ob enc sz m p a b N v L) (s : Sub m m') : Ob enc sz m' p a b N v L := by
  refine ⟨s p _ h.at_, h.row.into s, h.ne⟩
theorem Ob.fresh (h : Ob enc sz m p a b N v L) {c : Nat} (y : ABlk) (hc : m c = none) : Ob enc sz (hupd m c y) p a b N v L := h.into (Sub.fresh (Sub.refl m) hc)
theorem Ob.off (h : Ob enc sz m p a b N v L) {c : Nat} (hc : m c = none) : c ≠ p ∧ bOf v ≠ some c :=
  ⟨fun e => (by rw [e, h.at_] at hc; cases hc), fun e => h.slb e hc⟩
/-- Its slice was appended to, and is laid in. -/
theorem Ob.app {mb : Heap} {v' : AVal} {L' : List α} (h : Ob enc sz m p a b N v L) (s : Sub m mb) (h1 : SlM enc sz L' v' m') (h2 : AppFr v mb v' m') :
    m' p = some (.cells (a ++ v :: b) N) ∧ Ob enc sz (hupd m' p (.cells (a ++ v' :: b) N)) p a b N v' L' ∧ Fr p v m v' (hupd m' p (.cells (a ++ v' :: b) N)) := by
  have e := s p _ h.at_
  have hp : m' p = mb p := h2.1 p h.ne (by rw [e]; simp)
  have hv : bOf v' ≠ some p := fun hc => by
    rcases h2.2 p hc with k | k
    · rw [e] at k; cases k
    · exact h.ne k
  refine ⟨hp.trans e, ⟨by simp [hupd], h1.keep (fun c hc => ?_), hv⟩, fun x hx hv hm => ?_, fun c hc => ?_⟩
  · have : c ≠ p := fun k => hv (by rw [← k]; exact hc)
    simp only [hupd]; rw [if_neg this]
  · cases hm1 : m x with
    | none => exact absurd hm1 hm
    | some y => simp only [hupd]; rw [if_neg hx, h2.1 x hv (by rw [s x y hm1]; simp), s x y hm1]
  · exact (h2.2 c hc).imp (fun k => s.gone k) id
theorem Ob.frame (h : Ob enc sz m p a b N v L) {r : Nat} {w w' : AVal} (f : Fr r w m w' m') (hr : p ≠ r) (h1 : bOf w ≠ some p) (h2 : bOf v ≠ some r) (h3 : ∀ c, bOf v = some c → bOf w ≠ some c) : Ob enc sz m' p a b N v L :=
  h.keep (f.1 p hr h1 (by rw [h.at_]; simp)) (fun c hc => f.1 c (fun e => h2 (by rw [← e]; exact hc)) (h3 c hc) (h.slb hc))
end
/-- Two places of a row change. -/
theorem row_swap {α : Type} [Inhabited α] {enc : α → List AVal} {sz : Nat} (henc : ∀ a, (enc a).length = sz) (C : List α) (pre post : List AVal) (i j : Nat) (hi : i < C.length) (hj : j < C.length) :
    splice (splice (pre ++ (C.flatMap enc ++ post)) (pre.length + i * sz) (enc (C.getD j default))) (pre.length + j * sz) (enc (C.getD i default)) = pre ++ ((swp C i j).flatMap enc ++ post) := by
  have one : ∀ (C : List α) (k : Nat) (x : α), k < C.length → splice (pre ++ (C.flatMap enc ++ post)) (pre.length + k * sz) (enc x) = pre ++ ((C.set k x).flatMap enc ++ post) := by
    intro C k x hk
    rw [← flat_set henc C post k x hk]
    unfold splice
    rw [List.take_length_add_append, Nat.add_assoc, List.drop_length_add_append]; simp
  rw [one C i _ hi, one _ j _ (by simpa using hj)]
  rfl
theorem row_one {α : Type} {enc : α → List AVal} {sz : Nat} (henc : ∀ a, (enc a).length = sz) (C : List α) (pre post : List AVal) (k : Nat) (x : α) (hk : k < C.length) : splice (pre ++ (C.flatMap enc ++ post)) (pre.length + k * sz) (enc x) = pre ++ ((C.set k x).flatMap enc ++ post) := by
  rw [← flat_set henc C post k x hk]
  unfold splice
  rw [List.take_length_add_append, Nat.add_assoc, List.drop_length_add_append]; simp
end Go.Proofs.YtdckcophbmnjjaaGreatDoor.Ab
namespace Go.Proofs.YtdckcophbmnjjaaGreatDoor.Ab
open Go
/-- Where the reckoning stands still. -/
class Stop (p : Prop) : Prop where
  ok : True
section
variable {P : Program} {G : Nat → AVal} {m : Heap} {K : AVal → Heap → Prop}
instance (f : FuncId) (args : List AVal) : Stop (CallWP P G f args m K) := ⟨trivial⟩
instance (N : Nat) (r : Option Nat) (c : Code) (Q : Exit → TS → Heap → Prop) (ts : TS) : Stop (AWP P G N r c Q ts m) := ⟨trivial⟩
instance (v : AVal) : Stop (Part K v m) := ⟨trivial⟩
instance (n : Nat) (p : Prop) : Stop (Again n p) := ⟨trivial⟩
instance (st xt : TypeId) (s x : AVal) : Stop (aappend P st xt s x m K) := ⟨trivial⟩
instance (S0 : Nat → Prop) (m0 : Heap) (f : FuncId) (args : List AVal) (v : AVal) : Stop (QCall P G S0 m0 f args v) := ⟨trivial⟩
instance (b : Nat) : Stop (arangeG b m K) := ⟨trivial⟩
instance (S0 : Nat → Prop) (m0 : Heap) (e : Operand → AVal) (op : Op) (R : Heap → AVal → Heap → Prop) : Stop (ToldA P G S0 m0 e op R m K) := ⟨trivial⟩
instance (b : Nat) : Stop (anextG b m K) := ⟨trivial⟩
instance (b : Nat) : Stop (aentryG b m K) := ⟨trivial⟩
instance (l : Nat) (args : List AVal) : Stop (YieldWP P G l args m K) := ⟨trivial⟩
instance (t : TypeId) (v : AVal) (name : String) (args : List AVal) : Stop (SpecWP P G (.inv t v name) args m K) := ⟨trivial⟩
end
theorem run_rangeFunc {P : Program} {G : Nat → AVal} {N : Nat} {r : Option Nat} (g : Operand) (ps : Array Tmp) (a b : Code) (Q : Exit → TS → Heap → Prop) (ts : TS) (m : Heap) : run P G N r (.rangeFunc g ps a b) Q ts m = AWP P G N r (.rangeFunc g ps a b) Q ts m := rfl
instance (N : Nat) (ts : TS) (ps : Array Tmp) (a b : Code) (l : Nat) (K : AVal → Heap → Prop) (e : Exit) (ts2 : TS) (m : Heap) : Stop (roundA N ts ps a b l K e ts2 m) := ⟨trivial⟩
attribute [go_sem ↓] run_rangeFunc
theorem puts_cons (p : Tmp) (ps : List Tmp) (v : AVal) (vs : List AVal) (ts : TS) : puts (p :: ps) (v :: vs) ts = puts ps vs (upd ts p v) := rfl
theorem puts_nil (vs : List AVal) (ts : TS) : puts [] vs ts = ts := rfl
attribute [go_sem] puts_cons puts_nil
theorem stp {p : Prop} [Stop p] (h : p) : p := h
theorem tf0 {p : Prop} (h : true = false) : p := Bool.noConfusion h
theorem tf1 {p : Prop} (h : false = true) : p := Bool.noConfusion h
theorem need {c k : Prop} (h' : k) (h : c := by first | omega | (with_reducible assumption) | (simp only [List.length_map, List.length_cons, List.length_nil]; omega) | (refine ⟨?_, ?_⟩ <;> omega) | (refine ⟨?_, ?_, ?_⟩ <;> omega) | (simp; done) | (simp; omega)) : Need c k := ⟨h, h'⟩
theorem frk0 {p : Prop} [Decidable p] {yes no : Prop} (h1 : p → yes) (h2 : ¬ p → no) : condA (.bool (decide p)) yes no := condA_dec _ _ _ h1 h2
theorem frk1 {a b : Int} {yes no : Prop} (h1 : a = b → yes) (h2 : a ≠ b → no) : condA (.bool (a == b)) yes no := condA_beq _ _ _ _ h1 h2
theorem frk2 {a b : Int} {yes no : Prop} (h1 : a ≠ b → yes) (h2 : a = b → no) : condA (.bool (a != b)) yes no := condA_bne _ _ _ _ h1 h2
theorem frk3 {b : Bool} {yes no : Prop} (h1 : b = false → yes) (h2 : b = true → no) : condA (.bool (!b)) yes no := condA_nt _ _ _ h1 h2
theorem frk4 {t : Bool} {yes no : Prop} (h1 : t = true → yes) (h2 : t = false → no) : condA (.bool t) yes no := condA_bool _ _ _ h1 h2
theorem frk5 {p : Prop} [Decidable p] {want : Bool} {yes no : Prop} (h1 : p → gV (.bool true) want yes no) (h2 : ¬ p → gV (.bool false) want yes no) : gV (.bool (decide p)) want yes no := gV_dec _ _ _ _ h1 h2
theorem frk6 {a b : Int} {want : Bool} {yes no : Prop} (h1 : a = b → gV (.bool true) want yes no) (h2 : a ≠ b → gV (.bool false) want yes no) : gV (.bool (a == b)) want yes no := gV_beq _ _ _ _ _ h1 h2
theorem frk7 {a b : Int} {want : Bool} {yes no : Prop} (h1 : a ≠ b → gV (.bool true) want yes no) (h2 : a = b → gV (.bool false) want yes no) : gV (.bool (a != b)) want yes no := gV_bne _ _ _ _ _ h1 h2
theorem frk8 {b : Bool} {yes no : Prop} (h1 : b = true → yes) (h2 : b = false → no) : gV (.bool b) true yes no := gV_true _ _ _ h1 h2
theorem frk9 {b : Bool} {yes no : Prop} (h1 : b = false → yes) (h2 : b = true → no) : gV (.bool b) false yes no := gV_false _ _ _ h1 h2
theorem lres_ts (z v : AVal) : lres true z (some v) = .tuple [v, .bool true] := rfl
theorem lres_tn (z : AVal) : lres true z none = .tuple [z, .bool false] := rfl
theorem lres_fs (z v : AVal) : lres false z (some v) = v := rfl
theorem lres_fn (z : AVal) : lres false z none = z := rfl
theorem ttt {p : Prop} (h : p := by first | (simp only [upd, put, Nat.reduceEqDiff, ↓reduceIte]; done) | (simp [upd, put]; done) | rfl | (simp [upd, put]; rfl)) : p := h
attribute [go_sem ↓] runOps_appc runOps_appn run_scope run_goto run_label
attribute [go_sem] alookup amapUpdate amakeMap arange anext aentry lres_ts lres_tn lres_fs lres_fn Int.toNat_natCast Int.toNat_zero Int.cast_ofNat_Int Nat.mul_one Nat.zero_mul Int.le_refl decide_true decide_false and_self bne_self_eq_false bne_iff_ne beq_iff_eq ne_eq not_false_eq_true not_true_eq_false app_cons app_nil anil aclear abound Option.isSome_some Option.isSome_none Nat.sub_zero run_eff rep_0 rep_1 rep_2 rep_3 autoOrd ordG effs isLook isEff Stab_none exitA_ret exitA_normal exitA_goto exitA_exit thenA_goto blockA_goto jumpA_normal jumpA_ret jumpA_exit jumpA_goto List.take_succ_cons
end Go.Proofs.YtdckcophbmnjjaaGreatDoor.Ab
namespace Go.Proofs.YtdckcophbmnjjaaGreatDoor.Ab
open Go
section
variable {α : Type} {enc : α → List AVal} {sz : Nat}
theorem app_none {by' : Nat} {v : AVal} {m : Heap} {K : AVal → Heap → Prop} {C : List α} (henc : ∀ a, (enc a).length = sz) (hs : SlM enc sz C v m) (hK : ∀ v' m', SlM enc sz C v' m' → AppFr v m v' m' → K v' m') : appTo sz by' 0 [] v m K := by
  rcases hs with ⟨rfl, rfl⟩ | ⟨b', blk, hb', pre', post', N', cap', rfl, rfl, hN, hc⟩
  · simp only [appTo]
    exact ⟨fun _ => hK .nils m (.inl ⟨rfl, rfl⟩) (AppFr.refl _ _), fun h => absurd h (by simp)⟩
  · have el' : (C.flatMap enc).length = C.length * sz := flat_len henc C
    simp only [appTo, hb']
    refine ⟨⟨by rw [List.length_append, List.length_append, el']; omega, hN⟩, fun _ => ?_, fun h => absurd h (by omega)⟩
    have e1 : splice (pre' ++ (C.flatMap enc ++ post')) (pre'.length + C.length * sz) [] = pre' ++ (C.flatMap enc ++ post') := by unfold splice; simp only [List.append_nil, List.length_nil, Nat.add_zero, List.take_append_drop]
    rw [e1]
    refine hK _ _ (.inr ⟨b', _, by simp [hupd], pre', post', N', cap', rfl, rfl, hN, hc⟩) ⟨fun x _ _ => ?_, fun c hc => .inr hc⟩
    simp only [hupd]
    split
    · rename_i e; rw [e, hb']
    · rfl
/-- A slice behind a slice. -/
theorem appV {P : Program} {st xt e : TypeId} {a : Bool} {by' : Nat} {v v2 : AVal} {m : Heap} {K : AVal → Heap → Prop} {C E : List α}
    (h1 : P.underlying st = some (.slice e)) (h2 : tk P e = some (a, sz)) (h3 : eb P e = some by') (h4 : zl P e = some sz) (h5 : 0 < by') (h6 : (P.underlying xt).isSome = true) (h7 : isInt P xt = false)
    (henc : ∀ a, (enc a).length = sz) (hfl : (E.flatMap enc).all AVal.flat = true) (hs2 : SlM enc sz E v2 m) (hs : SlM enc sz C v m) (hlen : (C.length + E.length) * by' ≤ 1099511627776)
    (hK : ∀ v' m', SlM enc sz (C ++ E) v' m' → AppFr v m v' m' → K v' m') : aappend P st xt v v2 m K := by
  rcases hs2 with ⟨rfl, rfl⟩ | ⟨b, blk, hb, pre, post, N, cap, rfl, rfl, _, _⟩
  · refine app_step h1 h2 h3 h4 h5 h6 h7 ?_
    rw [List.append_nil] at hK
    exact ⟨rfl, app_none henc hs hK⟩
  · exact appN h1 h2 h3 h4 h5 h6 h7 henc hfl hb hs hlen hK
/-- Empty places behind a slice. -/
theorem appZ {P : Program} {st xt e : TypeId} {a : Bool} {by' n : Nat} {k : IntKind} {v : AVal} {m : Heap} {K : AVal → Heap → Prop} {C : List α} {z : α}
    (h1 : P.underlying st = some (.slice e)) (h2 : tk P e = some (a, sz)) (h3 : eb P e = some by') (h4 : zl P e = some sz) (h5 : 0 < by') (h6 : (P.underlying xt).isSome = true) (h7 : isInt P xt = true) (h8 : zc P e = some (enc z))
    (henc : ∀ a, (enc a).length = sz) (hfl : (enc z).all AVal.flat = true) (hs : SlM enc sz C v m) (h0 : 0 < n) (hlen : (C.length + n) * by' ≤ 1099511627776)
    (hK : ∀ v' m', SlM enc sz (C ++ List.replicate n z) v' m' → AppFr v m v' m' → K v' m') : aappend P st xt v (.int k (n : Nat)) m K := by
  unfold aappend
  rw [h1]
  simp only [h2, h3]
  refine ⟨⟨h5, h6, h4⟩, ?_⟩
  unfold appSrc
  rw [if_pos h7]
  simp only [h8]
  have hn : n * by' ≤ 1099511627776 := Nat.le_trans (Nat.mul_le_mul_right _ (Nat.le_add_left n C.length)) hlen
  have hn2 : n ≤ n * by' := Nat.le_mul_of_pos_right _ h5
  have er : rep n (enc z) = (List.replicate n z).flatMap enc := by
    unfold rep
    induction n with
    | zero => rfl
    | succ k ih => rw [List.replicate_succ, List.replicate_succ, List.flatMap_cons, List.flatten_cons]; congr 1; clear ih hn hn2 hlen h0 hK; induction k with
      | zero => rfl
      | succ j ih2 => rw [List.replicate_succ, List.replicate_succ, List.flatMap_cons, List.flatten_cons, ih2]
  refine ⟨by omega, by have : ((n : Int) * (by' : Int)) = ((n * by' : Nat) : Int) := by simp
                       omega, by omega, henc z, ?_⟩
  rw [Int.toNat_natCast, er]
  have hl : (List.replicate n z).length = n := List.length_replicate
  refine ⟨?_, ?_⟩
  · rw [List.all_eq_true]
    intro x hx
    obtain ⟨y, hy, hx⟩ := List.mem_flatMap.1 hx
    rw [(List.mem_replicate.1 hy).2] at hx
    exact List.all_eq_true.1 hfl x hx
  · have := app_to (by' := by') (C := C) (E := List.replicate n z) (s := v) (m := m) (K := K) henc hs (by rw [hl]; exact h0) (by rw [hl]; exact hlen) (fun b' v' blk hbf hv => hK v' _ (.inr ⟨b', blk, by simp [hupd], hv⟩) ⟨fun x hx hm => ?_, fun c hc => ?_⟩)
    · rwa [hl] at this
    · have : x ≠ b' := by
        rintro rfl
        rcases hbf with h | ⟨o, l, c, rfl⟩
        · exact hm h
        · exact hx rfl
      simp only [hupd]; rw [if_neg this]
    · obtain ⟨p1, p2, p3, p4, rfl, _⟩ := hv
      simp only [bOf, Option.some.injEq] at hc
      subst hc
      rcases hbf with h | ⟨o, l, c, rfl⟩
      · exact .inl h
      · exact .inr rfl
end
end Go.Proofs.YtdckcophbmnjjaaGreatDoor.Ab
