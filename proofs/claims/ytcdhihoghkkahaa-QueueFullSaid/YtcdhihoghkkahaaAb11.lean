/- The walk in the abstract view: operations one behind the other, code, calls. -/
import Derived.Test.YtcdhihoghkkahaaAb10
import Derived.RangeFuncSeq
set_option linter.all false
namespace Go.Proofs.Ytcdhihoghkkahaa.Ab
open Go

/-- Every function, any depth; in a round of a loop over a function, or not. -/
def W (r : Option Nat) : Fence := { fn := fun _ => True, depth := none, alive := false, round := r }
theorem W_room (r : Option Nat) (n : Nat) : (W r).room n := fun _ h => by simp [W] at h

def enters (P : Program) (f : FuncId) : Bool := match P.funcs[f]? with
  | some fn => fn.name != "runtime.NumGoroutine" && fn.body.isSome
  | none => false
theorem run_enters {P : Program} {f : FuncId} (h : enters P f = true) (args : Array Value) (w : World) : (callFunc f args).run P w = .ok (.enter f args) w := by
  unfold enters at h
  split at h
  · rename_i fn hf
    simp only [Bool.and_eq_true, bne_iff_ne, ne_eq] at h
    have h1 : (fn.name == "runtime.NumGoroutine") = false := by simpa using h.1
    have h2 : fn.body.isNone = false := by
      cases hb : fn.body with
      | none => rw [hb] at h; simp at h
      | some _ => rfl
    unfold callFunc
    simp only [Sem.run_bind, run_program, Result.andThen_ok, hf, h1, h2, Bool.false_eq_true, if_false, Sem.run_pure]
  · simp at h

/-- What is known of a call: from any state that goes with m it returns a value that K lets, and leaves a heap that K lets. -/
def CallIn (P : Program) (G : Nat → AVal) (f : FuncId) (args : List AVal) (m : Heap) (K : AVal → Heap → Prop) : Prop :=
  enters P f = true ∧ ∀ (w : World) (cargs : Array Value), Sat m w → GOk G m w → args.length = cargs.size → (∀ i, i < args.length → VRel m w (args.getD i .undef) (cargs.getD i Go.undef)) →
    Calls P f cargs w fun e w' => ∃ cv v m', e = .returned cv ∧ K v m' ∧ VRel m' w' v cv ∧ Sat m' w' ∧ Ext m w m' w'
/-- A function without a body that leaves the world as it was. -/
def CallOut (P : Program) (G : Nat → AVal) (f : FuncId) (args : List AVal) (m : Heap) (K : AVal → Heap → Prop) : Prop :=
  ∀ (w : World) (cargs : Array Value), Sat m w → GOk G m w → args.length = cargs.size → (∀ i, i < args.length → VRel m w (args.getD i .undef) (cargs.getD i Go.undef)) →
    ∃ x v m', (callFunc f cargs).run P w = .ok (.value x) w ∧ K v m' ∧ VRel m' w v x ∧ Sat m' w ∧ Ext m w m' w
def CallWP (P : Program) (G : Nat → AVal) (f : FuncId) (args : List AVal) (m : Heap) (K : AVal → Heap → Prop) : Prop := CallIn P G f args m K ∨ CallOut P G f args m K
theorem CallWP.mono {P : Program} {G : Nat → AVal} {f : FuncId} {args : List AVal} {m : Heap} {K K' : AVal → Heap → Prop} (h : CallWP P G f args m K) (hk : ∀ v m', K v m' → K' v m') : CallWP P G f args m K' :=
  h.elim (fun h => .inl ⟨h.1, fun w cargs hs hg hl hv => (h.2 w cargs hs hg hl hv).mono fun _ _ ⟨cv, v, m', h1, h2, h3⟩ => ⟨cv, v, m', h1, hk _ _ h2, h3⟩⟩)
    (fun h => .inr fun w cargs hs hg hl hv => let ⟨x, v, m', h1, h2, h3⟩ := h w cargs hs hg hl hv; ⟨x, v, m', h1, hk _ _ h2, h3⟩)

/-- Calls that lead to a round of a loop over a function, or through an interface. -/
inductive Spec where
  | yield (l : Nat)
  | inv (t : TypeId) (v : AVal) (name : String)
def specOf (e : Operand → AVal) : Op → Option (Spec × List AVal)
  | .call c => match c.callee with
    | .value f => match e f with
      | .func (.yield l) [] [] => some (.yield l, c.args.toList.map e)
      | _ => none
    | .invoke r name => match e r with
      | .iface t v => some (.inv t v name, c.args.toList.map e)
      | _ => none
    | _ => none
  | _ => none
/-- One round: what yield hands back. -/
def YieldWP (P : Program) (G : Nat → AVal) (l : Nat) (args : List AVal) (m : Heap) (K : AVal → Heap → Prop) : Prop :=
  ∀ (w : World) (cargs : Array Value), Sat m w → GOk G m w → args.length = cargs.size → (∀ i, i < args.length → VRel m w (args.getD i .undef) (cargs.getD i Go.undef)) →
    YieldAt (W none) 0 P l cargs w fun e w' => ∃ cv v m', e = .returned cv ∧ K v m' ∧ VRel m' w' v cv ∧ Sat m' w' ∧ Ext m w m' w'
theorem YieldWP.mono {P : Program} {G : Nat → AVal} {l : Nat} {args : List AVal} {m : Heap} {K K' : AVal → Heap → Prop} (h : YieldWP P G l args m K) (hk : ∀ v m', K v m' → K' v m') : YieldWP P G l args m K' :=
  fun w cargs hs hg hl hv => let ⟨fn, tmps, a, b, h1, h2⟩ := h w cargs hs hg hl hv; ⟨fn, tmps, a, b, h1, h2.mono fun _ _ ⟨cv, v, m', h1, h2, h3⟩ => ⟨cv, v, m', h1, hk _ _ h2, h3⟩⟩
/-- The method of a type, whatever the value. -/
def MethodIs (P : Program) (t : TypeId) (name : String) (f : FuncId) : Prop := ∀ (v : Value) (w : World), (method (P.types.size + Made.depth) t v name).run P w = .ok (f, v) w
def SpecWP (P : Program) (G : Nat → AVal) (s : Spec) (args : List AVal) (m : Heap) (K : AVal → Heap → Prop) : Prop := match s with
  | .yield l => YieldWP P G l args m K
  | .inv t v name => ∃ f, MethodIs P t name f ∧ CallWP P G f (v :: args) m K
theorem SpecWP.mono {P : Program} {G : Nat → AVal} {s : Spec} {args : List AVal} {m : Heap} {K K' : AVal → Heap → Prop} (h : SpecWP P G s args m K) (hk : ∀ v m', K v m' → K' v m') : SpecWP P G s args m K' := by
  cases s with
  | yield l => exact YieldWP.mono h hk
  | inv t v name => obtain ⟨f, h1, h2⟩ := h; exact ⟨f, h1, h2.mono hk⟩
/-- One operation, calls too. -/
def opGo (P : Program) (G : Nat → AVal) (e : Operand → AVal) (op : Op) (m : Heap) (K : AVal → Heap → Prop) : Prop :=
  match callOf e op with
  | some (f, args) => CallWP P G f args m K
  | none => match specOf e op with
    | some (s, args) => SpecWP P G s args m K
    | none => (den P e op).run m K

theorem ap_rel {m : Heap} {w : World} : ∀ (xs ys : List AVal) (xs' ys' : Array Value), xs.length = xs'.size → ys.length = ys'.size → (∀ i, i < xs.length → VRel m w (xs.getD i .undef) (xs'.getD i Go.undef)) → (∀ i, i < ys.length → VRel m w (ys.getD i .undef) (ys'.getD i Go.undef)) →
    (xs ++ ys).length = (xs' ++ ys').size ∧ ∀ i, i < (xs ++ ys).length → VRel m w ((xs ++ ys).getD i .undef) ((xs' ++ ys').getD i Go.undef) := by
  intro xs ys xs' ys' h1 h2 h3 h4
  refine ⟨by simp [h1, h2], fun i hi => ?_⟩
  by_cases h : i < xs.length
  · have e1 : (xs ++ ys).getD i .undef = xs.getD i .undef := by simp only [List.getD_eq_getElem?_getD]; rw [List.getElem?_append_left h]
    have e2 : (xs' ++ ys').getD i Go.undef = xs'.getD i Go.undef := by simp only [Array.getD_eq_getD_getElem?]; rw [Array.getElem?_append_left (by omega)]
    rw [e1, e2]; exact h3 i h
  · have e1 : (xs ++ ys).getD i .undef = ys.getD (i - xs.length) .undef := by simp only [List.getD_eq_getElem?_getD]; rw [List.getElem?_append_right (by omega)]
    have e2 : (xs' ++ ys').getD i Go.undef = ys'.getD (i - xs.length) Go.undef := by simp only [Array.getD_eq_getD_getElem?]; rw [Array.getElem?_append_right (by omega), h1]
    rw [e1, e2]; exact h4 _ (by simp at hi; omega)

def noDefer : Op → Bool
  | .defer _ => false
  | _ => true
theorem opGo_noDefer {P : Program} {G : Nat → AVal} {e : Operand → AVal} {op : Op} {m : Heap} {K : AVal → Heap → Prop} (h : opGo P G e op m K) : noDefer op = true := by
  cases op <;> first | rfl | exact h.elim

/-- The walk goes on: in a state that goes with what K lets. -/
def KW (N : Nat) (m : Heap) (w : World) (ds : List Deferred) (K : TS → Heap → Prop) : Act → World → Prop :=
  fun a' w' => ∃ ts' m', K ts' m' ∧ Sat m' w' ∧ TRel N m' w' ts' a' ∧ Ext m w m' w' ∧ a'.defers = ds

theorem oper_sound {P : Program} {G : Nat → AVal} {N : Nat} {r : Option Nat} {m : Heap} {w : World} {ts : TS} {a : Act} {o : Oper} {K : TS → Heap → Prop} {Q : Exit → Act → World → Prop}
    (hs : Sat m w) (hg : GOk G m w) (ht : TRel N m w ts a) (hd : ∀ i, o.dst = some i → i < N) (h : opGo P G (ev G ts) o.op m fun v m' => K (put ts o.dst v) m') :
    o.wpIn (W r) 0 P a w (KW N m w a.defers K) Q := by
  refine ⟨fun _ _ => trivial, ?_⟩
  have hnd := opGo_noDefer h
  have hsem : Oper.semAt (W r).round a.eval o = execOp a.eval o := Oper.semAt_eq _ _ _ (fun c hc => by rw [hc] at hnd; simp [noDefer] at hnd)
  rw [hsem]
  unfold opGo at h
  split at h
  · rename_i f args hco
    have hcall : ∃ c fo fs cs, o.op = .call c ∧ c.callee = .value fo ∧ ev G ts fo = .func (.func f) fs cs ∧ args = fs ++ c.args.toList.map (ev G ts) ++ cs := by
      unfold callOf at hco
      split at hco
      · rename_i c ho
        split at hco
        · rename_i fo hf
          split at hco
          · rename_i g fs cs he
            simp only [Option.some.injEq, Prod.mk.injEq] at hco
            obtain ⟨rfl, rfl⟩ := hco
            exact ⟨c, fo, fs, cs, ho, hf, he, rfl⟩
          · simp at hco
        · simp at hco
      · simp at hco
    obtain ⟨c, fo, fs, cs, ho, hf, he, rfl⟩ := hcall
    have hrel := ev_rel hg ht fo
    rw [he] at hrel
    obtain ⟨fs', cs', hev, l1, l2, v1, v2⟩ : ∃ fs' cs', a.eval fo = .func (.func f) fs' cs' ∧ fs.length = fs'.size ∧ cs.length = cs'.size ∧
        (∀ i, i < fs.length → VRel m w (fs.getD i .undef) (fs'.getD i Go.undef)) ∧ (∀ i, i < cs.length → VRel m w (cs.getD i .undef) (cs'.getD i Go.undef)) := by
      revert hrel; generalize a.eval fo = z; intro hrel
      cases hrel with
      | func _ _ _ fs' cs' l1 l2 v1 v2 => exact ⟨fs', cs', rfl, l1, l2, v1, v2⟩
    obtain ⟨l3, v3⟩ := vrel_map hg ht c.args
    obtain ⟨l4, v4⟩ := ap_rel _ _ _ _ l1 l3 v1 v3
    obtain ⟨l5, v5⟩ := ap_rel _ _ _ _ l4 l2 v4 v2
    rcases h with h | h
    · have hrun : (execOp a.eval o).run P w = .ok (.enter f (fs' ++ c.args.map a.eval ++ cs')) w := by
        unfold execOp
        simp only [ho, Sem.run_bind, resolve, hf, hev, Deferred.ofValue, Sem.run_pure, Result.andThen_ok, invoke, run_enters h.1]
      rw [hrun]
      refine ⟨fun hdep => by simp [W] at hdep, ?_⟩
      have hcalls := h.2 w _ hs hg l5 v5
      have hin : CallsIn (W r) (0 - 1) P f (fs' ++ c.args.map a.eval ++ cs') w fun e w' => ∃ cv v m', e = .returned cv ∧ K (put ts o.dst v) m' ∧ VRel m' w' v cv ∧ Sat m' w' ∧ Ext m w m' w' := by
        have := callsIn_wide (n := 0 - 1).2 hcalls
        exact this
      refine hin.mono ?_
      rintro e w' ⟨cv, v, m', rfl, hk, hv, hs', he'⟩
      exact ⟨_, m', hk, hs', (ht.ext he').put hd hv, he', by cases o.dst <;> rfl⟩
    · obtain ⟨x, v, m', hr, hk, hv, hs', he'⟩ := h w _ hs hg l5 v5
      have hrun : (execOp a.eval o).run P w = .ok (.value x) w := by
        unfold execOp
        simp only [ho, Sem.run_bind, resolve, hf, hev, Deferred.ofValue, Sem.run_pure, Result.andThen_ok, invoke, hr]
      rw [hrun]
      exact ⟨_, m', hk, hs', (ht.ext he').put hd hv, he', by cases o.dst <;> rfl⟩
  split at h
  · rename_i s args hso
    obtain ⟨c, ho, hc⟩ : ∃ c, o.op = .call c ∧ ((∃ fo l, c.callee = .value fo ∧ ev G ts fo = .func (.yield l) [] [] ∧ s = .yield l) ∨ (∃ r name t v, c.callee = .invoke r name ∧ ev G ts r = .iface t v ∧ s = .inv t v name)) ∧ args = c.args.toList.map (ev G ts) := by
      unfold specOf at hso
      split at hso
      · rename_i c ho
        refine ⟨c, ho, ?_⟩
        split at hso
        · rename_i fo hf
          split at hso
          · rename_i l he
            simp only [Option.some.injEq, Prod.mk.injEq] at hso
            obtain ⟨rfl, rfl⟩ := hso
            exact ⟨.inl ⟨fo, l, hf, he, rfl⟩, rfl⟩
          · simp at hso
        · rename_i r name hf
          split at hso
          · rename_i t v he
            simp only [Option.some.injEq, Prod.mk.injEq] at hso
            obtain ⟨rfl, rfl⟩ := hso
            exact ⟨.inr ⟨r, name, t, v, hf, he, rfl⟩, rfl⟩
          · simp at hso
        · simp at hso
      · simp at hso
    obtain ⟨hc, rfl⟩ := hc
    obtain ⟨l3, v3⟩ := vrel_map hg ht c.args
    rcases hc with ⟨fo, l, hf, he, rfl⟩ | ⟨r', name, t, v, hf, he, rfl⟩
    · have hrel := ev_rel hg ht fo
      rw [he] at hrel
      have hev : a.eval fo = .func (.yield l) #[] #[] := by
        revert hrel; generalize a.eval fo = z; intro hrel
        cases hrel with
        | func _ _ _ fs' cs' l1 l2 v1 v2 =>
          have e1 : fs' = #[] := Array.eq_empty_of_size_eq_zero (by simpa using l1.symm)
          have e2 : cs' = #[] := Array.eq_empty_of_size_eq_zero (by simpa using l2.symm)
          rw [e1, e2]
      obtain ⟨fn, tmps, ac, bc, h1, h2⟩ := h w _ hs hg l3 v3
      have hrun : (execOp a.eval o).run P w = .ok (.round l fn tmps ac bc) w := by
        unfold execOp
        simp only [ho, Sem.run_bind, resolve, hf, hev, Deferred.ofValue, Sem.run_pure, Result.andThen_ok, invoke, Array.empty_append, h1]
      rw [hrun]
      refine ⟨fun hdep => by simp [W] at hdep, ?_⟩
      have hin : RoundIn (W r) (0 - 1) P l fn tmps ac bc w fun e w' => ∃ cv v m', e = .returned cv ∧ K (put ts o.dst v) m' ∧ VRel m' w' v cv ∧ Sat m' w' ∧ Ext m w m' w' := h2
      refine hin.mono ?_
      rintro e w' ⟨cv, v, m', rfl, hk, hv, hs', he'⟩
      exact ⟨_, m', hk, hs', (ht.ext he').put hd hv, he', by cases o.dst <;> rfl⟩
    · obtain ⟨f, hm, h⟩ := h
      have hrel := ev_rel hg ht r'
      rw [he] at hrel
      obtain ⟨x, hev, hx⟩ : ∃ x, a.eval r' = .iface t x ∧ VRel m w v x := by
        revert hrel; generalize a.eval r' = z; intro hrel
        cases hrel with
        | iface _ _ x h => exact ⟨x, rfl, h⟩
      have hl : (v :: c.args.toList.map (ev G ts)).length = (#[x] ++ c.args.map a.eval).size := by simp; omega
      have hv : ∀ i, i < (v :: c.args.toList.map (ev G ts)).length → VRel m w ((v :: c.args.toList.map (ev G ts)).getD i .undef) ((#[x] ++ c.args.map a.eval).getD i Go.undef) :=
        (ap_rel [v] _ #[x] _ rfl l3 (fun i hi => by
          have : i = 0 := by simp at hi; exact hi
          subst this; simpa using hx) v3).2
      have hext : (#[a.eval r'] ++ c.args.map a.eval).extract 1 (#[a.eval r'] ++ c.args.map a.eval).size = c.args.map a.eval := by
        apply Array.ext'
        simp
        exact List.take_of_length_le (by simp)
      rcases h with h | h
      · have hrun : (execOp a.eval o).run P w = .ok (.enter f (#[x] ++ c.args.map a.eval)) w := by
          unfold execOp
          simp only [ho, Sem.run_bind, resolve, hf, Sem.run_pure, Result.andThen_ok, invoke, hext]
          have e0 : (#[a.eval r'] ++ c.args.map a.eval)[0]? = some (.iface t x) := by rw [Array.getElem?_append_left (by simp), hev]; rfl
          simp only [e0, callMethod, Sem.run_bind, run_program, Result.andThen_ok, hm x w, run_enters h.1]
        rw [hrun]
        refine ⟨fun hdep => by simp [W] at hdep, ?_⟩
        have hcalls := h.2 w _ hs hg hl hv
        have hin : CallsIn (W r) (0 - 1) P f (#[x] ++ c.args.map a.eval) w fun e w' => ∃ cv v m', e = .returned cv ∧ K (put ts o.dst v) m' ∧ VRel m' w' v cv ∧ Sat m' w' ∧ Ext m w m' w' := callsIn_wide (n := 0 - 1).2 hcalls
        refine hin.mono ?_
        rintro e w' ⟨cv, v, m', rfl, hk, hv, hs', he'⟩
        exact ⟨_, m', hk, hs', (ht.ext he').put hd hv, he', by cases o.dst <;> rfl⟩
      · obtain ⟨y, v', m', hr, hk, hv', hs', he'⟩ := h w _ hs hg hl hv
        have hrun : (execOp a.eval o).run P w = .ok (.value y) w := by
          unfold execOp
          simp only [ho, Sem.run_bind, resolve, hf, Sem.run_pure, Result.andThen_ok, invoke, hext]
          have e0 : (#[a.eval r'] ++ c.args.map a.eval)[0]? = some (.iface t x) := by rw [Array.getElem?_append_left (by simp), hev]; rfl
          simp only [e0, callMethod, Sem.run_bind, run_program, Result.andThen_ok, hm x w, hr]
        rw [hrun]
        exact ⟨_, m', hk, hs', (ht.ext he').put hd hv', he', by cases o.dst <;> rfl⟩
  · obtain ⟨nxt, w', x, v, m', h1, h2, h3, h4, h5, h6⟩ := den_tells hs hg ht o _ h
    rw [h1]
    have hfin : KW N m w a.defers K (a.put o.dst x) w' := ⟨_, m', h3, h5, (ht.ext h6).put hd h4, h6, by cases o.dst <;> rfl⟩
    rcases h2 with rfl | ⟨rfl, rfl⟩
    · exact hfin
    · exact hfin

end Go.Proofs.Ytcdhihoghkkahaa.Ab
