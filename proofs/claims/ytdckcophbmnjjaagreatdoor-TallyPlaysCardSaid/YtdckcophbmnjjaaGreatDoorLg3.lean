/- What a statement's operations come to, one behind the other; calls by what is known of them. The walk in the abstract view: operations one behind the other, code, calls. Code in the abstract view; a function's contract from its body. Drawn regions: the order is anybody's, so far as it changes nothing. -/
import Derived.Test.YtdckcophbmnjjaaGreatDoorLg2
import Derived.TacticsIn
import Derived.RangeFuncSeq
import Derived.OrdersIn
set_option linter.all false
namespace Go.Proofs.YtdckcophbmnjjaaGreatDoor.Ab
open Go

def aparts (e : Operand → AVal) (ps : Array (Nat × Operand)) : List (Nat × AVal) := ps.toList.map fun p => (p.1, e p.2)
def anil : AVal → D
  | .ptr b o => .pure True (.ptr b o)
  | .rptr cs o => .pure True (.rptr cs o)
  | .func (.func f) a b => .pure True (.func (.func f) a b)
  | .func (.yield f) a b => .pure True (.func (.yield f) a b)
  | .iface t v => .pure True (.iface t v)
  | _ => .fail
def abuiltin (P : Program) (b : Builtin) (ts : List TypeId) (xs : List AVal) : D :=
  match b, ts, xs with
  | .len, [t], [x] => alen P t x
  | .cap, [t], [x] => acap P t x
  | .min, _, xs => amm false xs
  | .max, _, xs => amm true xs
  | .append, [st, xt], [s, x] => .eff (aappend P st xt s x)
  | .copy, [dt, _], [d, x] => .eff (acopy P dt d x)
  | .clear, [t], [x] => match P.underlying t with
    | some _ => aclear P t x
    | none => .fail
  | _, _, _ => .fail
def acall (P : Program) (e : Operand → AVal) (c : Call) : D :=
  match c.callee with
  | .builtin b => abuiltin P b c.argTypes.toList (c.args.toList.map e)
  | _ => .fail
def apk (x : AVal) (a b : AVal) : D := match x with
  | .bool t => .pure True (apick t a b)
  | _ => .fail
/-- What an operation comes to, its operands being what e says. -/
def den (P : Program) (e : Operand → AVal) : Op → D
  | .move x => .pure True (e x)
  | .assign x => .pure True (e x)
  | .pick c a b => apk (e c) (e a) (e b)
  | .alloc t => aalloc P t
  | .box t v => abox t (e v)
  | .build t ps => abuild P t (aparts e ps)
  | .buildSlice t n ps => abuildSlice P t n (aparts e ps)
  | .load t a => aload P t (e a)
  | .store t a v => astore P t (e a) (e v)
  | .nilCheck x => anil (e x)
  | .binOp op t x y _ => abin P op t (e x) (e y)
  | .unOp op _ x => aun op (e x)
  | .convert s d x => aconv P s d (e x)
  | .makeInterface t x => aiface P t (e x)
  | .makeFunc fn fs cs => .pure True (.func fn (fs.toList.map e) (cs.toList.map e))
  | .makeSlice t l c => amake P t (e l) (e c)
  | .slice t x lo hi mx => aslice P t (e x) (lo.map e) (hi.map e) (mx.map e)
  | .fieldAddr t x f => afieldAddr P t f (e x)
  | .field t x f => afield P t f (e x)
  | .indexAddr t x i => aindexAddr P t (e x) (e i)
  | .index t x i => aindex P t (e x) (e i)
  | .typeAssert x _ t ok => aassert P t ok (e x)
  | .extract x i => aextract i (e x)
  | .call c => acall P e c
  | .makeMap t r => match P.underlying t with
    | some (.map _ _) => amakeMap (r.map e)
    | _ => .fail
  | .lookup t x k ok => alookup P t ok (e x) (e k)
  | .mapUpdate t x k v => amapUpdate P t (e x) (e k) (e v)
  | .insert t x k v => amapUpdate P t (e x) (e k) (e v)
  | .range t x => arange P t (e x)
  | .next x s => anext s (e x)
  | .entry x => aentry (e x)
  | _ => .fail

/-- The model's operation ends as told. -/
def OpEnds (P : Program) (s : Sem Next) (w : World) (m : Heap) (K : AVal → Heap → Prop) : Prop :=
  ∃ nxt w' x v m', s.run P w = .ok nxt w' ∧ (nxt = .value x ∨ (nxt = .skip ∧ x = Go.undef)) ∧ K v m' ∧ VRel m' w' v x ∧ Sat m' w' ∧ Ext m w m' w'
theorem OpEnds.of {P : Program} {s : Sem Value} {w : World} {m : Heap} {K : AVal → Heap → Prop} (h : Ends P s w m K) : OpEnds P (do pure (.value (← s))) w m K := by
  obtain ⟨x, w', v, m', h1, h2⟩ := h
  exact ⟨.value x, w', x, v, m', by simp [h1], .inl rfl, h2⟩
theorem OpEnds.ofUnit {P : Program} {s : Sem Unit} {w : World} {m : Heap} {K : AVal → Heap → Prop} (h : Ends P (do s; pure Go.undef) w m K) : OpEnds P (do s; pure .skip) w m K := by
  obtain ⟨x, w', v, m', h1, h2⟩ := h
  simp only [Sem.run_bind] at h1
  cases hs : s.run P w with
  | ok u w1 =>
    simp only [hs, Result.andThen_ok, Sem.run_pure, Result.ok.injEq] at h1
    obtain ⟨rfl, rfl⟩ := h1
    exact ⟨.skip, w1, Go.undef, v, m', by simp [hs], .inr ⟨rfl, rfl⟩, h2⟩
  | halt h w1 => simp [hs] at h1

/-- The function that an operation calls, and its arguments. -/
def callOf (e : Operand → AVal) : Op → Option (FuncId × List AVal)
  | .call c => match c.callee with
    | .value f => match e f with
      | .func (.func g) fs cs => some (g, fs ++ c.args.toList.map e ++ cs)
      | _ => none
    | _ => none
  | _ => none

theorem brelO {m : Heap} {w : World} {G : Nat → AVal} {N : Nat} {ts : TS} {a : Act} (hg : GOk G m w) (ht : TRel N m w ts a) (x : Option Operand) : BRelO m w (x.map (ev G ts)) (x.map a.eval) := by
  cases x with
  | none => trivial
  | some x => exact ev_rel hg ht x
theorem vrel_map {m : Heap} {w : World} {G : Nat → AVal} {N : Nat} {ts : TS} {a : Act} (hg : GOk G m w) (ht : TRel N m w ts a) (xs : Array Operand) :
    (xs.toList.map (ev G ts)).length = (xs.map a.eval).size ∧ ∀ i, i < (xs.toList.map (ev G ts)).length → VRel m w ((xs.toList.map (ev G ts)).getD i .undef) ((xs.map a.eval).getD i Go.undef) := by
  refine ⟨by simp, fun i hi => ?_⟩
  have hi' : i < xs.size := by simpa using hi
  simp [List.getD_eq_getElem?_getD, Array.getD_eq_getD_getElem?, hi']
  exact ev_rel hg ht _
theorem parts_rel {m : Heap} {w : World} {G : Nat → AVal} {N : Nat} {ts : TS} {a : Act} (hg : GOk G m w) (ht : TRel N m w ts a) (ps : Array (Nat × Operand)) :
    (aparts (ev G ts) ps).length = (ps.map fun (i, x) => (i, a.eval x)).size ∧ ∀ i, i < (aparts (ev G ts) ps).length → ((aparts (ev G ts) ps).getD i (0, .undef)).1 = ((ps.map fun (i, x) => (i, a.eval x)).toList.getD i (0, Go.undef)).1 ∧
      VRel m w ((aparts (ev G ts) ps).getD i (0, .undef)).2 ((ps.map fun (i, x) => (i, a.eval x)).toList.getD i (0, Go.undef)).2 := by
  refine ⟨by simp [aparts], fun i hi => ?_⟩
  have hi' : i < ps.size := by simpa [aparts] using hi
  simp [aparts, List.getD_eq_getElem?_getD, hi']
  exact ev_rel hg ht _

theorem builtin_tells {P : Program} {w : World} {m : Heap} {b : Builtin} {ts : Array TypeId} {ty : TypeId} {cs : Array Bool} {xs : List AVal} {xs' : Array Value} (hs : Sat m w) (hl : xs.length = xs'.size)
    (hx : ∀ i, i < xs.length → VRel m w (xs.getD i .undef) (xs'.getD i Go.undef)) (K : AVal → Heap → Prop) (hK : (abuiltin P b ts.toList xs).run m K) : OpEnds P (builtin b ts ty cs xs') w m K := by
  have one : ∀ x, xs = [x] → ∃ x', xs' = #[x'] ∧ VRel m w x x' := by
    rintro x rfl
    obtain ⟨l⟩ := xs'
    match l, hl, hx with
    | [p], _, hx => exact ⟨p, rfl, by simpa using hx 0 (by simp)⟩
  have two : ∀ x y, xs = [x, y] → ∃ x' y', xs' = #[x', y'] ∧ VRel m w x x' ∧ VRel m w y y' := by
    rintro x y rfl
    obtain ⟨l⟩ := xs'
    match l, hl, hx with
    | [p, q], _, hx => exact ⟨p, q, rfl, by simpa using hx 0 (by simp), by simpa using hx 1 (by simp)⟩
  have t1 : ∀ t, ts.toList = [t] → ts = #[t] := by
    intro t h; obtain ⟨l⟩ := ts; simp at h; rw [h]
  have t2 : ∀ t u, ts.toList = [t, u] → ts = #[t, u] := by
    intro t u h; obtain ⟨l⟩ := ts; simp at h; rw [h]
  unfold abuiltin at hK
  split at hK
  · rename_i t x ht
    obtain ⟨x', rfl, hv⟩ := one x rfl
    rw [t1 t ht]
    exact OpEnds.of (alen_tells hs hv K hK)
  · rename_i t x ht
    obtain ⟨x', rfl, hv⟩ := one x rfl
    rw [t1 t ht]
    exact OpEnds.of (acap_tells hs hv K hK)
  · exact OpEnds.of ((amin_tells hs hl hx).1 K hK)
  · exact OpEnds.of ((amin_tells hs hl hx).2 K hK)
  · rename_i st xt s x ht
    obtain ⟨s', x', rfl, hv1, hv2⟩ := two s x rfl
    rw [t2 st xt ht]
    exact OpEnds.of (aappend_tells hs hv1 hv2 K hK)
  · rename_i st xt s x ht
    obtain ⟨s', x', rfl, hv1, hv2⟩ := two s x rfl
    rw [t2 st xt ht]
    exact OpEnds.of (acopy_tells hs hv1 hv2 K hK)
  · rename_i t x ht
    obtain ⟨x', rfl, hv⟩ := one x rfl
    rw [t1 t ht]
    split at hK
    · rename_i d hd
      exact OpEnds.of (aclear_tells hs hv (by rw [hd]; rfl) K hK)
    · exact hK.elim
  · exact hK.elim

theorem den_tells {P : Program} {G : Nat → AVal} {N : Nat} {m : Heap} {w : World} {ts : TS} {a : Act} (hs : Sat m w) (hg : GOk G m w) (ht : TRel N m w ts a) (o : Oper) (K : AVal → Heap → Prop)
    (hK : (den P (ev G ts) o.op).run m K) : OpEnds P (execOp a.eval o) w m K := by
  have E := fun x => ev_rel hg ht x
  have pureV : ∀ (v : AVal) (x : Value), VRel m w v x → K v m → OpEnds P (pure (.value x)) w m K :=
    fun v x hv hk => ⟨.value x, w, x, v, m, rfl, .inl rfl, hk, hv, hs, Ext.refl _ _⟩
  unfold execOp
  cases ho : o.op <;> rw [ho] at hK <;> simp only [den] at hK
  case move x => exact pureV _ _ (E x) hK.2
  case assign x => exact pureV _ _ (E x) hK.2
  case pick c x y =>
    unfold apk at hK
    split at hK
    · rename_i t ht'
      have hcv := E c
      rw [ht'] at hcv
      obtain ⟨hk1, hk2⟩ := hK
      have : a.eval c = .bool t := by
        revert hcv; generalize a.eval c = z; intro hcv; cases hcv; rfl
      refine ⟨.value (if t then a.eval x else a.eval y), w, _, _, m, ?_, .inl rfl, hk2, apick_rel (E x) (E y), hs, Ext.refl _ _⟩
      simp only [this, Sem.run_bind, asBool, Sem.run_pure, Result.andThen_ok]
    · exact hK.elim
  case alloc t => exact OpEnds.of (aalloc_tells hs K hK)
  case box t v => exact OpEnds.of (abox_tells hs (E v) K hK)
  case build t ps =>
    obtain ⟨h1, h2⟩ := parts_rel hg ht ps
    exact OpEnds.of (abuild_tells hs h1 h2 K hK)
  case buildSlice t n ps =>
    obtain ⟨h1, h2⟩ := parts_rel hg ht ps
    exact OpEnds.of (abuildSlice_tells hs h1 h2 K hK)
  case load t x => exact OpEnds.of (aload_tells hs (E x) K hK)
  case store t x v => exact OpEnds.ofUnit (astore_tells hs (E x) (E v) K hK)
  case nilCheck x =>
    have hx := E x
    unfold anil at hK
    split at hK
    · rename_i b o' he; rw [he] at hx
      have := pureV _ _ hx hK.2
      cases hv : a.eval x <;> rw [hv] at hx <;> first | (cases hx; done) | skip
      cases hx; rw [hv] at this; simp only [hv]; exact this
    · rename_i b o' he; rw [he] at hx
      have := pureV _ _ hx hK.2
      cases hv : a.eval x <;> rw [hv] at hx <;> first | (cases hx; done) | skip
      cases hx; rw [hv] at this; simp only [hv]; exact this
    · rename_i f p q he; rw [he] at hx
      have := pureV _ _ hx hK.2
      cases hv : a.eval x <;> rw [hv] at hx <;> first | (cases hx; done) | skip
      cases hx; rw [hv] at this; simp only [hv]; exact this
    · rename_i f p q he; rw [he] at hx
      have := pureV _ _ hx hK.2
      cases hv : a.eval x <;> rw [hv] at hx <;> first | (cases hx; done) | skip
      cases hx; rw [hv] at this; simp only [hv]; exact this
    · rename_i t v he; rw [he] at hx
      have := pureV _ _ hx hK.2
      cases hv : a.eval x <;> rw [hv] at hx <;> first | (cases hx; done) | skip
      cases hx; rw [hv] at this; simp only [hv]; exact this
    · exact hK.elim
  case binOp op t x y t' => exact OpEnds.of (abin_tells hs (E x) (E y) K hK)
  case unOp op t x => exact OpEnds.of (aun_tells hs (E x) K hK)
  case convert s d x => exact OpEnds.of (aconv_tells hs (E x) K hK)
  case makeInterface t x => exact OpEnds.of (aiface_tells hs (E x) K hK)
  case makeFunc fn fs cs =>
    obtain ⟨h1, h2⟩ := vrel_map hg ht fs
    obtain ⟨h3, h4⟩ := vrel_map hg ht cs
    exact OpEnds.of (.here hs rfl hK.2 (.func _ _ _ _ _ h1 h3 h2 h4))
  case makeSlice t l c => exact OpEnds.of (amake_tells hs (E l) (E c) K hK)
  case slice t x lo hi mx => exact OpEnds.of (aslice_tells hs (E x) (brelO hg ht lo) (brelO hg ht hi) (brelO hg ht mx) K hK)
  case fieldAddr t x f => exact OpEnds.of (afieldAddr_tells hs (E x) K hK)
  case field t x f => exact OpEnds.of (afield_tells hs (E x) K hK)
  case indexAddr t x i => exact OpEnds.of (aindexAddr_tells hs (E x) (E i) K hK)
  case index t x i => exact OpEnds.of (aindex_tells hs (E x) (E i) K hK)
  case typeAssert x xt t ok => exact OpEnds.of (aassert_tells hs (E x) K hK)
  case extract x i => exact OpEnds.of (aextract_tells hs (E x) K hK)
  case call c =>
    unfold acall at hK
    split at hK
    · rename_i b hb
      obtain ⟨h1, h2⟩ := vrel_map hg ht c.args
      have := builtin_tells (P := P) (w := w) (ts := c.argTypes) (ty := o.type) (cs := c.args.map fun | .const _ => true | _ => false) hs h1 h2 K hK
      obtain ⟨nxt, w', x, v, m', r, q⟩ := this
      refine ⟨nxt, w', x, v, m', ?_, q⟩
      simp only [resolve, hb, Sem.run_bind, Sem.run_pure, Result.andThen_ok, invoke]
      exact r
    · exact hK.elim
  case makeMap t r =>
    split at hK
    · rename_i k' e' hu
      refine OpEnds.of (amakeMap_tells hu hs ?_ K hK)
      cases r with
      | none => trivial
      | some x => exact E x
    · exact hK.elim
  case lookup t x k ok => exact OpEnds.of (alookup_tells hs (E x) (E k) K hK)
  case mapUpdate t x k v => exact OpEnds.ofUnit (amapUpdate_tells hs (E x) (E k) (E v) K hK)
  case insert t x k v => exact OpEnds.ofUnit (amapUpdate_tells hs (E x) (E k) (E v) K hK)
  case range t x => exact OpEnds.of (arange_tells hs (E x) K hK)
  case next x s => exact OpEnds.of (anext_tells hs (E x) K hK)
  case entry x => exact OpEnds.of (aentry_tells hs (E x) K hK)
  all_goals exact hK.elim

end Go.Proofs.YtdckcophbmnjjaaGreatDoor.Ab
namespace Go.Proofs.YtdckcophbmnjjaaGreatDoor.Ab
open Go

/-- Every function, any depth; in a round of a loop over a function, or not. -/
def W (r : Option Nat) : Fence := { fn := fun _ => True, depth := none, alive := false, round := r }
theorem W_room (r : Option Nat) (n : Nat) : (W r).room n := fun _ h => by simp [W] at h

def enters (P : Program) (f : FuncId) : Bool := match P.funcs[f]? with
  | some fn => fn.name != "runtime.NumGoroutine" && fn.body.isSome
  | none => false
theorem run_enters {P : Program} {f : FuncId} (h : enters P f = true) (args : Array Value) (w : World) : (callFunc f args).run P w = .ok (.enter f args) w := by
  unfold enters at h
  split at h
  · rename_i fn hf
    simp only [Bool.and_eq_true, bne_iff_ne, ne_eq] at h
    have h1 : (fn.name == "runtime.NumGoroutine") = false := by simpa using h.1
    have h2 : fn.body.isNone = false := by
      cases hb : fn.body with
      | none => rw [hb] at h; simp at h
      | some _ => rfl
    unfold callFunc
    simp only [Sem.run_bind, run_program, Result.andThen_ok, hf, h1, h2, Bool.false_eq_true, if_false, Sem.run_pure]
  · simp at h

/-- What is known of a call: from any state that goes with m it returns a value that K lets, and leaves a heap that K lets. -/
def CallIn (P : Program) (G : Nat → AVal) (f : FuncId) (args : List AVal) (m : Heap) (K : AVal → Heap → Prop) : Prop :=
  enters P f = true ∧ ∀ (w : World) (cargs : Array Value), Sat m w → GOk G m w → args.length = cargs.size → (∀ i, i < args.length → VRel m w (args.getD i .undef) (cargs.getD i Go.undef)) →
    Calls P f cargs w fun e w' => ∃ cv v m', e = .returned cv ∧ K v m' ∧ VRel m' w' v cv ∧ Sat m' w' ∧ Ext m w m' w'
/-- A function without a body that leaves the world as it was. -/
def CallOut (P : Program) (G : Nat → AVal) (f : FuncId) (args : List AVal) (m : Heap) (K : AVal → Heap → Prop) : Prop :=
  ∀ (w : World) (cargs : Array Value), Sat m w → GOk G m w → args.length = cargs.size → (∀ i, i < args.length → VRel m w (args.getD i .undef) (cargs.getD i Go.undef)) →
    ∃ x v m', (callFunc f cargs).run P w = .ok (.value x) w ∧ K v m' ∧ VRel m' w v x ∧ Sat m' w ∧ Ext m w m' w
def CallWP (P : Program) (G : Nat → AVal) (f : FuncId) (args : List AVal) (m : Heap) (K : AVal → Heap → Prop) : Prop := CallIn P G f args m K ∨ CallOut P G f args m K
theorem CallWP.mono {P : Program} {G : Nat → AVal} {f : FuncId} {args : List AVal} {m : Heap} {K K' : AVal → Heap → Prop} (h : CallWP P G f args m K) (hk : ∀ v m', K v m' → K' v m') : CallWP P G f args m K' :=
  h.elim (fun h => .inl ⟨h.1, fun w cargs hs hg hl hv => (h.2 w cargs hs hg hl hv).mono fun _ _ ⟨cv, v, m', h1, h2, h3⟩ => ⟨cv, v, m', h1, hk _ _ h2, h3⟩⟩)
    (fun h => .inr fun w cargs hs hg hl hv => let ⟨x, v, m', h1, h2, h3⟩ := h w cargs hs hg hl hv; ⟨x, v, m', h1, hk _ _ h2, h3⟩)

/-- Calls that lead to a round of a loop over a function, or through an interface. -/
inductive Spec where
  | yield (l : Nat)
  | inv (t : TypeId) (v : AVal) (name : String)
def specOf (e : Operand → AVal) : Op → Option (Spec × List AVal)
  | .call c => match c.callee with
    | .value f => match e f with
      | .func (.yield l) [] [] => some (.yield l, c.args.toList.map e)
      | _ => none
    | .invoke r name => match e r with
      | .iface t v => some (.inv t v name, c.args.toList.map e)
      | _ => none
    | _ => none
  | _ => none
/-- One round: what yield hands back. -/
def YieldWP (P : Program) (G : Nat → AVal) (l : Nat) (args : List AVal) (m : Heap) (K : AVal → Heap → Prop) : Prop :=
  ∀ (w : World) (cargs : Array Value), Sat m w → GOk G m w → args.length = cargs.size → (∀ i, i < args.length → VRel m w (args.getD i .undef) (cargs.getD i Go.undef)) →
    YieldAt (W none) 0 P l cargs w fun e w' => ∃ cv v m', e = .returned cv ∧ K v m' ∧ VRel m' w' v cv ∧ Sat m' w' ∧ Ext m w m' w'
theorem YieldWP.mono {P : Program} {G : Nat → AVal} {l : Nat} {args : List AVal} {m : Heap} {K K' : AVal → Heap → Prop} (h : YieldWP P G l args m K) (hk : ∀ v m', K v m' → K' v m') : YieldWP P G l args m K' :=
  fun w cargs hs hg hl hv => let ⟨fn, tmps, a, b, h1, h2⟩ := h w cargs hs hg hl hv; ⟨fn, tmps, a, b, h1, h2.mono fun _ _ ⟨cv, v, m', h1, h2, h3⟩ => ⟨cv, v, m', h1, hk _ _ h2, h3⟩⟩
/-- The method of a type, whatever the value. -/
def MethodIs (P : Program) (t : TypeId) (name : String) (f : FuncId) : Prop := ∀ (v : Value) (w : World), (method (P.types.size + Made.depth) t v name).run P w = .ok (f, v) w
def SpecWP (P : Program) (G : Nat → AVal) (s : Spec) (args : List AVal) (m : Heap) (K : AVal → Heap → Prop) : Prop := match s with
  | .yield l => YieldWP P G l args m K
  | .inv t v name => ∃ f, MethodIs P t name f ∧ CallWP P G f (v :: args) m K
theorem SpecWP.mono {P : Program} {G : Nat → AVal} {s : Spec} {args : List AVal} {m : Heap} {K K' : AVal → Heap → Prop} (h : SpecWP P G s args m K) (hk : ∀ v m', K v m' → K' v m') : SpecWP P G s args m K' := by
  cases s with
  | yield l => exact YieldWP.mono h hk
  | inv t v name => obtain ⟨f, h1, h2⟩ := h; exact ⟨f, h1, h2.mono hk⟩
/-- One operation, calls too. -/
def opGo (P : Program) (G : Nat → AVal) (e : Operand → AVal) (op : Op) (m : Heap) (K : AVal → Heap → Prop) : Prop :=
  match callOf e op with
  | some (f, args) => CallWP P G f args m K
  | none => match specOf e op with
    | some (s, args) => SpecWP P G s args m K
    | none => (den P e op).run m K

theorem ap_rel {m : Heap} {w : World} : ∀ (xs ys : List AVal) (xs' ys' : Array Value), xs.length = xs'.size → ys.length = ys'.size → (∀ i, i < xs.length → VRel m w (xs.getD i .undef) (xs'.getD i Go.undef)) → (∀ i, i < ys.length → VRel m w (ys.getD i .undef) (ys'.getD i Go.undef)) →
    (xs ++ ys).length = (xs' ++ ys').size ∧ ∀ i, i < (xs ++ ys).length → VRel m w ((xs ++ ys).getD i .undef) ((xs' ++ ys').getD i Go.undef) := by
  intro xs ys xs' ys' h1 h2 h3 h4
  refine ⟨by simp [h1, h2], fun i hi => ?_⟩
  by_cases h : i < xs.length
  · have e1 : (xs ++ ys).getD i .undef = xs.getD i .undef := by simp only [List.getD_eq_getElem?_getD]; rw [List.getElem?_append_left h]
    have e2 : (xs' ++ ys').getD i Go.undef = xs'.getD i Go.undef := by simp only [Array.getD_eq_getD_getElem?]; rw [Array.getElem?_append_left (by omega)]
    rw [e1, e2]; exact h3 i h
  · have e1 : (xs ++ ys).getD i .undef = ys.getD (i - xs.length) .undef := by simp only [List.getD_eq_getElem?_getD]; rw [List.getElem?_append_right (by omega)]
    have e2 : (xs' ++ ys').getD i Go.undef = ys'.getD (i - xs.length) Go.undef := by simp only [Array.getD_eq_getD_getElem?]; rw [Array.getElem?_append_right (by omega), h1]
    rw [e1, e2]; exact h4 _ (by simp at hi; omega)

def noDefer : Op → Bool
  | .defer _ => false
  | _ => true
theorem opGo_noDefer {P : Program} {G : Nat → AVal} {e : Operand → AVal} {op : Op} {m : Heap} {K : AVal → Heap → Prop} (h : opGo P G e op m K) : noDefer op = true := by
  cases op <;> first | rfl | exact h.elim

/-- The walk goes on: in a state that goes with what K lets. -/
def KW (N : Nat) (m : Heap) (w : World) (ds : List Deferred) (K : TS → Heap → Prop) : Act → World → Prop :=
  fun a' w' => ∃ ts' m', K ts' m' ∧ Sat m' w' ∧ TRel N m' w' ts' a' ∧ Ext m w m' w' ∧ a'.defers = ds

theorem oper_sound {P : Program} {G : Nat → AVal} {N : Nat} {r : Option Nat} {m : Heap} {w : World} {ts : TS} {a : Act} {o : Oper} {K : TS → Heap → Prop} {Q : Exit → Act → World → Prop}
    (hs : Sat m w) (hg : GOk G m w) (ht : TRel N m w ts a) (hd : ∀ i, o.dst = some i → i < N) (h : opGo P G (ev G ts) o.op m fun v m' => K (put ts o.dst v) m') :
    o.wpIn (W r) 0 P a w (KW N m w a.defers K) Q := by
  refine ⟨fun _ _ => trivial, ?_⟩
  have hnd := opGo_noDefer h
  have hsem : Oper.semAt (W r).round a.eval o = execOp a.eval o := Oper.semAt_eq _ _ _ (fun c hc => by rw [hc] at hnd; simp [noDefer] at hnd)
  rw [hsem]
  unfold opGo at h
  split at h
  · rename_i f args hco
    have hcall : ∃ c fo fs cs, o.op = .call c ∧ c.callee = .value fo ∧ ev G ts fo = .func (.func f) fs cs ∧ args = fs ++ c.args.toList.map (ev G ts) ++ cs := by
      unfold callOf at hco
      split at hco
      · rename_i c ho
        split at hco
        · rename_i fo hf
          split at hco
          · rename_i g fs cs he
            simp only [Option.some.injEq, Prod.mk.injEq] at hco
            obtain ⟨rfl, rfl⟩ := hco
            exact ⟨c, fo, fs, cs, ho, hf, he, rfl⟩
          · simp at hco
        · simp at hco
      · simp at hco
    obtain ⟨c, fo, fs, cs, ho, hf, he, rfl⟩ := hcall
    have hrel := ev_rel hg ht fo
    rw [he] at hrel
    obtain ⟨fs', cs', hev, l1, l2, v1, v2⟩ : ∃ fs' cs', a.eval fo = .func (.func f) fs' cs' ∧ fs.length = fs'.size ∧ cs.length = cs'.size ∧
        (∀ i, i < fs.length → VRel m w (fs.getD i .undef) (fs'.getD i Go.undef)) ∧ (∀ i, i < cs.length → VRel m w (cs.getD i .undef) (cs'.getD i Go.undef)) := by
      revert hrel; generalize a.eval fo = z; intro hrel
      cases hrel with
      | func _ _ _ fs' cs' l1 l2 v1 v2 => exact ⟨fs', cs', rfl, l1, l2, v1, v2⟩
    obtain ⟨l3, v3⟩ := vrel_map hg ht c.args
    obtain ⟨l4, v4⟩ := ap_rel _ _ _ _ l1 l3 v1 v3
    obtain ⟨l5, v5⟩ := ap_rel _ _ _ _ l4 l2 v4 v2
    rcases h with h | h
    · have hrun : (execOp a.eval o).run P w = .ok (.enter f (fs' ++ c.args.map a.eval ++ cs')) w := by
        unfold execOp
        simp only [ho, Sem.run_bind, resolve, hf, hev, Deferred.ofValue, Sem.run_pure, Result.andThen_ok, invoke, run_enters h.1]
      rw [hrun]
      refine ⟨fun hdep => by simp [W] at hdep, ?_⟩
      have hcalls := h.2 w _ hs hg l5 v5
      have hin : CallsIn (W r) (0 - 1) P f (fs' ++ c.args.map a.eval ++ cs') w fun e w' => ∃ cv v m', e = .returned cv ∧ K (put ts o.dst v) m' ∧ VRel m' w' v cv ∧ Sat m' w' ∧ Ext m w m' w' := by
        have := callsIn_wide (n := 0 - 1).2 hcalls
        exact this
      refine hin.mono ?_
      rintro e w' ⟨cv, v, m', rfl, hk, hv, hs', he'⟩
      exact ⟨_, m', hk, hs', (ht.ext he').put hd hv, he', by cases o.dst <;> rfl⟩
    · obtain ⟨x, v, m', hr, hk, hv, hs', he'⟩ := h w _ hs hg l5 v5
      have hrun : (execOp a.eval o).run P w = .ok (.value x) w := by
        unfold execOp
        simp only [ho, Sem.run_bind, resolve, hf, hev, Deferred.ofValue, Sem.run_pure, Result.andThen_ok, invoke, hr]
      rw [hrun]
      exact ⟨_, m', hk, hs', (ht.ext he').put hd hv, he', by cases o.dst <;> rfl⟩
  split at h
  · rename_i s args hso
    obtain ⟨c, ho, hc⟩ : ∃ c, o.op = .call c ∧ ((∃ fo l, c.callee = .value fo ∧ ev G ts fo = .func (.yield l) [] [] ∧ s = .yield l) ∨ (∃ r name t v, c.callee = .invoke r name ∧ ev G ts r = .iface t v ∧ s = .inv t v name)) ∧ args = c.args.toList.map (ev G ts) := by
      unfold specOf at hso
      split at hso
      · rename_i c ho
        refine ⟨c, ho, ?_⟩
        split at hso
        · rename_i fo hf
          split at hso
          · rename_i l he
            simp only [Option.some.injEq, Prod.mk.injEq] at hso
            obtain ⟨rfl, rfl⟩ := hso
            exact ⟨.inl ⟨fo, l, hf, he, rfl⟩, rfl⟩
          · simp at hso
        · rename_i r name hf
          split at hso
          · rename_i t v he
            simp only [Option.some.injEq, Prod.mk.injEq] at hso
            obtain ⟨rfl, rfl⟩ := hso
            exact ⟨.inr ⟨r, name, t, v, hf, he, rfl⟩, rfl⟩
          · simp at hso
        · simp at hso
      · simp at hso
    obtain ⟨hc, rfl⟩ := hc
    obtain ⟨l3, v3⟩ := vrel_map hg ht c.args
    rcases hc with ⟨fo, l, hf, he, rfl⟩ | ⟨r', name, t, v, hf, he, rfl⟩
    · have hrel := ev_rel hg ht fo
      rw [he] at hrel
      have hev : a.eval fo = .func (.yield l) #[] #[] := by
        revert hrel; generalize a.eval fo = z; intro hrel
        cases hrel with
        | func _ _ _ fs' cs' l1 l2 v1 v2 =>
          have e1 : fs' = #[] := Array.eq_empty_of_size_eq_zero (by simpa using l1.symm)
          have e2 : cs' = #[] := Array.eq_empty_of_size_eq_zero (by simpa using l2.symm)
          rw [e1, e2]
      obtain ⟨fn, tmps, ac, bc, h1, h2⟩ := h w _ hs hg l3 v3
      have hrun : (execOp a.eval o).run P w = .ok (.round l fn tmps ac bc) w := by
        unfold execOp
        simp only [ho, Sem.run_bind, resolve, hf, hev, Deferred.ofValue, Sem.run_pure, Result.andThen_ok, invoke, Array.empty_append, h1]
      rw [hrun]
      refine ⟨fun hdep => by simp [W] at hdep, ?_⟩
      have hin : RoundIn (W r) (0 - 1) P l fn tmps ac bc w fun e w' => ∃ cv v m', e = .returned cv ∧ K (put ts o.dst v) m' ∧ VRel m' w' v cv ∧ Sat m' w' ∧ Ext m w m' w' := h2
      refine hin.mono ?_
      rintro e w' ⟨cv, v, m', rfl, hk, hv, hs', he'⟩
      exact ⟨_, m', hk, hs', (ht.ext he').put hd hv, he', by cases o.dst <;> rfl⟩
    · obtain ⟨f, hm, h⟩ := h
      have hrel := ev_rel hg ht r'
      rw [he] at hrel
      obtain ⟨x, hev, hx⟩ : ∃ x, a.eval r' = .iface t x ∧ VRel m w v x := by
        revert hrel; generalize a.eval r' = z; intro hrel
        cases hrel with
        | iface _ _ x h => exact ⟨x, rfl, h⟩
      have hl : (v :: c.args.toList.map (ev G ts)).length = (#[x] ++ c.args.map a.eval).size := by simp; omega
      have hv : ∀ i, i < (v :: c.args.toList.map (ev G ts)).length → VRel m w ((v :: c.args.toList.map (ev G ts)).getD i .undef) ((#[x] ++ c.args.map a.eval).getD i Go.undef) :=
        (ap_rel [v] _ #[x] _ rfl l3 (fun i hi => by
          have : i = 0 := by simp at hi; exact hi
          subst this; simpa using hx) v3).2
      have hext : (#[a.eval r'] ++ c.args.map a.eval).extract 1 (#[a.eval r'] ++ c.args.map a.eval).size = c.args.map a.eval := by
        apply Array.ext'
        simp
        exact List.take_of_length_le (by simp)
      rcases h with h | h
      · have hrun : (execOp a.eval o).run P w = .ok (.enter f (#[x] ++ c.args.map a.eval)) w := by
          unfold execOp
          simp only [ho, Sem.run_bind, resolve, hf, Sem.run_pure, Result.andThen_ok, invoke, hext]
          have e0 : (#[a.eval r'] ++ c.args.map a.eval)[0]? = some (.iface t x) := by rw [Array.getElem?_append_left (by simp), hev]; rfl
          simp only [e0, callMethod, Sem.run_bind, run_program, Result.andThen_ok, hm x w, run_enters h.1]
        rw [hrun]
        refine ⟨fun hdep => by simp [W] at hdep, ?_⟩
        have hcalls := h.2 w _ hs hg hl hv
        have hin : CallsIn (W r) (0 - 1) P f (#[x] ++ c.args.map a.eval) w fun e w' => ∃ cv v m', e = .returned cv ∧ K (put ts o.dst v) m' ∧ VRel m' w' v cv ∧ Sat m' w' ∧ Ext m w m' w' := callsIn_wide (n := 0 - 1).2 hcalls
        refine hin.mono ?_
        rintro e w' ⟨cv, v, m', rfl, hk, hv, hs', he'⟩
        exact ⟨_, m', hk, hs', (ht.ext he').put hd hv, he', by cases o.dst <;> rfl⟩
      · obtain ⟨y, v', m', hr, hk, hv', hs', he'⟩ := h w _ hs hg hl hv
        have hrun : (execOp a.eval o).run P w = .ok (.value y) w := by
          unfold execOp
          simp only [ho, Sem.run_bind, resolve, hf, Sem.run_pure, Result.andThen_ok, invoke, hext]
          have e0 : (#[a.eval r'] ++ c.args.map a.eval)[0]? = some (.iface t x) := by rw [Array.getElem?_append_left (by simp), hev]; rfl
          simp only [e0, callMethod, Sem.run_bind, run_program, Result.andThen_ok, hm x w, hr]
        rw [hrun]
        exact ⟨_, m', hk, hs', (ht.ext he').put hd hv', he', by cases o.dst <;> rfl⟩
  · obtain ⟨nxt, w', x, v, m', h1, h2, h3, h4, h5, h6⟩ := den_tells hs hg ht o _ h
    rw [h1]
    have hfin : KW N m w a.defers K (a.put o.dst x) w' := ⟨_, m', h3, h5, (ht.ext h6).put hd h4, h6, by cases o.dst <;> rfl⟩
    rcases h2 with rfl | ⟨rfl, rfl⟩
    · exact hfin
    · exact hfin

end Go.Proofs.YtdckcophbmnjjaaGreatDoor.Ab
namespace Go.Proofs.YtdckcophbmnjjaaGreatDoor.Ab
open Go

/-- Where the walk of a piece of code ends. -/
def QL (N B : Nat) (m : Heap) (w : World) (Q : Exit → TS → Heap → Prop) : Exit → Act → World → Prop :=
  fun e a' w' => ∃ ts' m', Q e ts' m' ∧ Sat m' w' ∧ TRel N m' w' ts' a' ∧ Ext m w m' w' ∧ DefOK B m' w' a'.defers
/-- A piece of code, from every state that goes with ts and m. -/
def AWP (P : Program) (G : Nat → AVal) (N : Nat) (r : Option Nat) (c : Code) (Q : Exit → TS → Heap → Prop) (ts : TS) (m : Heap) : Prop :=
  ∀ (B : Nat) (w : World) (a : Act), B ≤ w.heap.size → Sat m w → GOk G m w → TRel N m w ts a → DefOK B m w a.defers → c.wpIn (W r) 0 P (QL N B m w Q) a w

theorem QL.mono {N B : Nat} {m : Heap} {w : World} {Q Q' : Exit → TS → Heap → Prop} (h : ∀ e ts m, Q e ts m → Q' e ts m) {e : Exit} {a : Act} {w' : World} (hq : QL N B m w Q e a w') : QL N B m w Q' e a w' := by
  obtain ⟨ts', m', h1, h2⟩ := hq; exact ⟨ts', m', h _ _ _ h1, h2⟩
theorem AWP.mono {P : Program} {G : Nat → AVal} {N : Nat} {r : Option Nat} {c : Code} {Q Q' : Exit → TS → Heap → Prop} {ts : TS} {m : Heap} (h : AWP P G N r c Q ts m) (hq : ∀ e ts m, Q e ts m → Q' e ts m) : AWP P G N r c Q' ts m :=
  fun B w a hB hs hg ht hd => wpIn_mono (h B w a hB hs hg ht hd) fun _ _ _ => QL.mono hq
theorem QL.trans {N B : Nat} {m m1 : Heap} {w w1 : World} {Q : Exit → TS → Heap → Prop} (e : Ext m w m1 w1) {x : Exit} {a : Act} {w' : World} (h : QL N B m1 w1 Q x a w') : QL N B m w Q x a w' := by
  obtain ⟨ts', m', h1, h2, h3, h4, h5⟩ := h; exact ⟨ts', m', h1, h2, h3, e.trans h4, h5⟩

/-! ### Operations in the text's order -/
def dstOk (N : Nat) : Option Nat → Prop
  | none => True
  | some d => d < N
/-- Is an operation carried out? -/
def wantA (ops : Array Oper) (ts : TS) (o : Oper) (yes no : Prop) : Prop := match o.guard with
  | none => yes
  | some (j, want) => match (ops[j]?).bind (·.dst) with
    | none => no
    | some d => match ts d with
      | .bool b => (b = want → yes) ∧ (b = !want → no)
      | .tuple _ => no
      | _ => False
def runOps (P : Program) (G : Nat → AVal) (N : Nat) (ops : Array Oper) : List Oper → TS → Heap → (TS → Heap → Prop) → Prop
  | [], ts, m, K => K ts m
  | o :: rest, ts, m, K => dstOk N o.dst ∧ wantA ops ts o (opGo P G (ev G ts) o.op m fun v m' => runOps P G N ops rest (put ts o.dst v) m' K) (runOps P G N ops rest (put ts o.dst (.tuple [])) m K)

theorem wanted_of {N : Nat} {ops : Array Oper} {ts : TS} {o : Oper} {yes no : Prop} {m : Heap} {w : World} {a : Act} (ht : TRel N m w ts a) (h : wantA ops ts o yes no) :
    (Region.wanted o (yielded ops a.tmps) = true ∧ yes) ∨ (Region.wanted o (yielded ops a.tmps) = false ∧ no) := by
  unfold wantA at h
  unfold Region.wanted yielded
  split at h
  · rename_i hg; rw [hg]; exact .inl ⟨rfl, h⟩
  · rename_i j want hg
    rw [hg]
    split at h
    · rename_i hj
      right
      simp only [hj, Option.bind_none]
      exact ⟨by cases want <;> rfl, h⟩
    · rename_i d hj
      have hv := ht.vals d
      simp only [hj, Option.bind_some]
      have hget : ∀ x, a.tmps.getD d Go.undef = x → a.tmps[d]? = some x ∨ (a.tmps[d]? = none ∧ x = Go.undef) := by
        intro x hx
        rw [Array.getD_eq_getD_getElem?] at hx
        cases hd : a.tmps[d]? with
        | none => right; rw [hd] at hx; exact ⟨rfl, hx.symm⟩
        | some y => left; rw [hd] at hx; simp at hx; rw [hx]
      split at h
      · rename_i b hb
        rw [hb] at hv
        have e : a.tmps.getD d Go.undef = .bool b := by
          revert hv; generalize a.tmps.getD d Go.undef = z; intro hv; cases hv; rfl
        rcases hget _ e with h1 | ⟨_, h2⟩
        · rw [h1]
          by_cases hbw : b = want
          · left; subst hbw; exact ⟨by simp, h.1 rfl⟩
          · right
            have : b = !want := by cases b <;> cases want <;> simp_all
            exact ⟨by subst this; cases want <;> rfl, h.2 this⟩
        · cases h2
      · rename_i vs hb
        rw [hb] at hv
        have e : ∃ l, a.tmps.getD d Go.undef = .tuple l := by
          revert hv; generalize a.tmps.getD d Go.undef = z; intro hv; cases hv; exact ⟨_, rfl⟩
        obtain ⟨l, e⟩ := e
        right
        refine ⟨?_, h⟩
        rcases hget _ e with h1 | ⟨h1, _⟩
        · rw [h1]; cases want <;> rfl
        · rw [h1]; cases want <;> rfl
      · exact h.elim

theorem oper_next {F : Fence} {n : Nat} {P : Program} {o : Oper} {a : Act} {w : World} {next next' : Act → World → Prop} {Q : Exit → Act → World → Prop} (h : o.wpIn F n P a w next Q) (hn : ∀ a' w', next a' w' → next' a' w') :
    o.wpIn F n P a w next' Q := by
  refine ⟨h.1, ?_⟩
  have h2 := h.2
  unfold Oper.uponIn at h2 ⊢
  split at h2
  · exact hn _ _ h2
  · exact hn _ _ h2
  · exact hn _ _ h2
  · refine ⟨h2.1, h2.2.mono ?_⟩
    intro e w' he
    cases e with
    | returned v => exact hn _ _ he
    | panicked c => exact he
    | outgrown => exact he
  · exact ⟨h2.1, h2.2.mono fun v w' he => hn _ _ he⟩
  · refine ⟨h2.1, h2.2.mono ?_⟩
    intro e w' he
    cases e with
    | returned v => exact hn _ _ he
    | panicked c => exact he
    | outgrown => exact he
  · exact h2
  · exact h2.elim

theorem runOps_sound {P : Program} {G : Nat → AVal} {N : Nat} {r : Option Nat} {ops : Array Oper} {K : TS → Heap → Prop} {Q : Exit → Act → World → Prop} : ∀ (rest : List Oper) (i : Nat) (ts : TS) (m : Heap) (w : World) (a : Act),
    (∀ j, ops[i + j]? = rest[j]?) → runOps P G N ops rest ts m K → Sat m w → GOk G m w → TRel N m w ts a → (∀ a' w', KW N m w a.defers K a' w' → Q .normal a' w') →
    wpOpsIn (W r) 0 P ops Q (List.range' i rest.length) a w
  | [], i, ts, m, w, a, _, h, hs, hg, ht, hQ => by
    simp only [List.length_nil, List.range'_zero, wpOpsIn]
    exact hQ _ _ ⟨ts, m, h, hs, ht, Ext.refl _ _, rfl⟩
  | o :: rest, i, ts, m, w, a, hop, h, hs, hg, ht, hQ => by
    simp only [List.length_cons, List.range'_succ, wpOpsIn]
    have h0 := hop 0
    simp only [Nat.add_zero, List.getElem?_cons_zero] at h0
    have hop' : ∀ j, ops[(i + 1) + j]? = rest[j]? := by
      intro j
      have := hop (j + 1)
      simp only [List.getElem?_cons_succ] at this
      rw [← this]; congr 1; omega
    simp only [h0]
    obtain ⟨hd, h⟩ := h
    have hd' : ∀ k, o.dst = some k → k < N := by
      intro k hk; rw [hk] at hd; exact hd
    rcases wanted_of ht h with ⟨hw, hy⟩ | ⟨hw, hn⟩
    · simp only [hw, if_true]
      refine oper_next (oper_sound (r := r) (K := fun ts' m' => runOps P G N ops rest ts' m' K) hs hg ht hd' hy) ?_
      rintro a' w' ⟨ts', m', hk, hs', ht', he', hdef⟩
      refine runOps_sound rest (i + 1) ts' m' w' a' hop' hk hs' (hg.ext he') ht' ?_
      rintro a'' w'' ⟨ts'', m'', hk, hs'', ht'', he'', hdef'⟩
      exact hQ _ _ ⟨ts'', m'', hk, hs'', ht'', he'.trans he'', hdef'.trans hdef⟩
    · simp only [hw, Bool.false_eq_true, if_false]
      refine ⟨fun _ _ => trivial, ?_⟩
      refine runOps_sound rest (i + 1) (put ts o.dst (.tuple [])) m w (a.put o.dst Go.undef) hop' hn hs hg (ht.put hd' (.tuple [] #[] rfl (fun i hi => by simp at hi))) ?_
      rintro a'' w'' ⟨ts'', m'', hk, hs'', ht'', he'', hdef'⟩
      refine hQ _ _ ⟨ts'', m'', hk, hs'', ht'', he'', ?_⟩
      rw [hdef']; cases o.dst <;> rfl

theorem awp_region {P : Program} {G : Nat → AVal} {N : Nat} {r : Option Nat} {id : Nat} {ops : Array Oper} {Q : Exit → TS → Heap → Prop} {ts : TS} {m : Heap} (h : runOps P G N ops ops.toList ts m (Q .normal)) : AWP P G N r (.region id ops false) Q ts m := by
  intro B w a hB hs hg ht hd
  refine wpIn_region ?_
  have := runOps_sound (r := r) (Q := QL N B m w Q) ops.toList 0 ts m w a (fun j => by simp) h hs hg ht (fun a' w' ⟨ts', m', hk, hs', ht', he', hdef⟩ => ⟨ts', m', hk, hs', ht', he', by rw [hdef]; exact hd.ext he'⟩)
  rw [List.range_eq_range']
  simpa using this

/-! ### Code -/
def thenA (next : TS → Heap → Prop) (Q : Exit → TS → Heap → Prop) : Exit → TS → Heap → Prop
  | .normal, ts, m => next ts m
  | e, ts, m => Q e ts m
def blockA (id : Nat) (Q : Exit → TS → Heap → Prop) : Exit → TS → Heap → Prop
  | .exit id', ts, m => if id' = id then Q .normal ts m else Q (.exit id') ts m
  | e, ts, m => Q e ts m
def run (P : Program) (G : Nat → AVal) (N : Nat) (r : Option Nat) : Code → (Exit → TS → Heap → Prop) → TS → Heap → Prop
  | .skip, Q, ts, m => Q .normal ts m
  | .region id ops draw, Q, ts, m => if draw then AWP P G N r (.region id ops true) Q ts m else runOps P G N ops ops.toList ts m (Q .normal)
  | .seq a b, Q, ts, m => run P G N r a (thenA (fun ts' m' => run P G N r b Q ts' m') Q) ts m
  | .cond c a b, Q, ts, m => match ev G ts c with
    | .bool t => (t = true → run P G N r a Q ts m) ∧ (t = false → run P G N r b Q ts m)
    | _ => False
  | .block id c, Q, ts, m => run P G N r c (blockA id Q) ts m
  | .exit id, Q, ts, m => Q (.exit id) ts m
  | .goto l, Q, ts, m => Q (.goto l) ts m
  | .label _, Q, ts, m => Q .normal ts m
  | .ret, Q, ts, m => Q .ret ts m
  | .refuse _, _, _, _ => False
  | c, Q, ts, m => AWP P G N r c Q ts m

theorem run_sound {P : Program} {G : Nat → AVal} {N : Nat} {r : Option Nat} : ∀ (c : Code) (Q : Exit → TS → Heap → Prop) (ts : TS) (m : Heap), run P G N r c Q ts m → AWP P G N r c Q ts m
  | .skip, Q, ts, m, h => fun B w a hB hs hg ht hd => wpIn_skip ⟨ts, m, h, hs, ht, Ext.refl _ _, hd⟩
  | .region id ops draw, Q, ts, m, h => by
    cases draw with
    | true => exact h
    | false => exact awp_region h
  | .seq a b, Q, ts, m, h => fun B w ac hB hs hg ht hd => by
    have h1 := run_sound a _ ts m h B w ac hB hs hg ht hd
    refine wpIn_seq (wpIn_mono h1 ?_)
    intro e a' w' hq
    cases e with
    | normal =>
      obtain ⟨ts', m', hk, hs', ht', he', hd'⟩ := hq
      exact wpIn_mono (run_sound b Q ts' m' hk B w' a' (Nat.le_trans hB he'.size) hs' (hg.ext he') ht' hd') fun _ _ _ h => QL.trans he' h
    | _ => exact hq
  | .cond c x y, Q, ts, m, h => fun B w a hB hs hg ht hd => by
    simp only [run] at h
    have hv := ev_rel hg ht c
    split at h
    · rename_i t hc
      rw [hc] at hv
      have e : a.eval c = .bool t := by
        revert hv; generalize a.eval c = z; intro hv; cases hv; rfl
      cases t with
      | true => exact wpIn_cond e (run_sound x Q ts m (h.1 rfl) B w a hB hs hg ht hd)
      | false => exact wpIn_cond e (run_sound y Q ts m (h.2 rfl) B w a hB hs hg ht hd)
    · exact h.elim
  | .block id c, Q, ts, m, h => fun B w a hB hs hg ht hd => by
    refine wpIn_block (wpIn_mono (run_sound c _ ts m h B w a hB hs hg ht hd) ?_)
    rintro e a' w' ⟨ts', m', hk, hr⟩
    cases e with
    | exit id' =>
      simp only [blockA] at hk
      simp only [Exit.inBlock]
      split at hk
      · rename_i hi; rw [if_pos hi]; exact ⟨ts', m', hk, hr⟩
      · rename_i hi; rw [if_neg hi]; exact ⟨ts', m', hk, hr⟩
    | _ => exact ⟨ts', m', hk, hr⟩
  | .exit id, Q, ts, m, h => fun B w a hB hs hg ht hd => wpIn_exit ⟨ts, m, h, hs, ht, Ext.refl _ _, hd⟩
  | .goto l, Q, ts, m, h => fun B w a hB hs hg ht hd => wpIn_goto ⟨ts, m, h, hs, ht, Ext.refl _ _, hd⟩
  | .label l, Q, ts, m, h => fun B w a hB hs hg ht hd => wpIn_label ⟨ts, m, h, hs, ht, Ext.refl _ _, hd⟩
  | .ret, Q, ts, m, h => fun B w a hB hs hg ht hd => wpIn_ret ⟨ts, m, h, hs, ht, Ext.refl _ _, hd⟩
  | .refuse _, Q, ts, m, h => h.elim
  | .loop c, Q, ts, m, h => h
  | .rangeFunc f ps x y, Q, ts, m, h => h
  | .scope c, Q, ts, m, h => h

/-- A loop, by what holds at its head and a number that each round lowers. -/
theorem awp_loop {P : Program} {G : Nat → AVal} {N : Nat} {r : Option Nat} {c : Code} {Q : Exit → TS → Heap → Prop} {ts : TS} {m : Heap} (I : Nat → TS → Heap → Prop) (k0 : Nat) (h0 : I k0 ts m)
    (round : ∀ k ts m, I k ts m → run P G N r c (thenA (fun ts' m' => ∃ k', k' < k ∧ I k' ts' m') Q) ts m) : AWP P G N r (.loop c) Q ts m := by
  classical
  intro B w a hB hs hg ht hd
  let Inv : Nat → Act → World → Prop := fun k a' w' => ∃ ts' m', I k ts' m' ∧ Sat m' w' ∧ TRel N m' w' ts' a' ∧ Ext m w m' w' ∧ DefOK B m' w' a'.defers
  have main : ∀ k a' w', Inv k a' w' → (Code.loop c).wpIn (W r) 0 P (QL N B m w Q) a' w' := by
    intro k a0 w0 hi0
    let least : Act → World → Nat → Prop := fun a' w' j => Inv j a' w' ∧ ∀ i, Inv i a' w' → j ≤ i
    have hleast : ∀ a' w' j, Inv j a' w' → ∃ i, least a' w' i := by
      intro a' w' j
      induction j using Nat.strongRecOn with
      | _ j ih =>
        intro hj
        by_cases hm : ∃ i, i < j ∧ Inv i a' w'
        · obtain ⟨i, hi, hi'⟩ := hm; exact ih i hi hi'
        · exact ⟨j, hj, fun i hi => Nat.le_of_not_lt fun hlt => hm ⟨i, hlt, hi⟩⟩
    let μ : Act → World → Nat := fun a' w' => if h : ∃ i, least a' w' i then h.choose else 0
    refine wpIn_loop (fun a' w' => ∃ k, Inv k a' w') μ ⟨k, hi0⟩ ?_
    rintro a' w' ⟨k', hk'⟩
    have hex := hleast a' w' k' hk'
    have hμ : μ a' w' = hex.choose := by simp only [μ]; rw [dif_pos hex]
    obtain ⟨hl1, hl2⟩ := hex.choose_spec
    rw [← hμ] at hl1 hl2
    obtain ⟨ts', m', hi, hs', ht', he', hd'⟩ := hl1
    refine wpIn_mono (run_sound c _ ts' m' (round _ ts' m' hi) B w' a' (Nat.le_trans hB he'.size) hs' (hg.ext he') ht' hd') ?_
    rintro e a'' w'' ⟨ts'', m'', hk, hs'', ht'', he'', hd''⟩
    cases e with
    | normal =>
      obtain ⟨k'', hlt, hi''⟩ := hk
      have hinv : Inv k'' a'' w'' := ⟨ts'', m'', hi'', hs'', ht'', he'.trans he'', hd''⟩
      refine ⟨⟨k'', hinv⟩, ?_⟩
      have hex2 := hleast a'' w'' k'' hinv
      have hμ2 : μ a'' w'' = hex2.choose := by simp only [μ]; rw [dif_pos hex2]
      have := hex2.choose_spec.2 k'' hinv
      omega
    | _ => exact ⟨ts'', m'', hk, hs'', ht'', he'.trans he'', hd''⟩
  exact main k0 a w ⟨ts, m, h0, hs, ht, Ext.refl _ _, hd⟩

/-! ### A function -/
def resGo (P : Program) : List ResultVar → TS → Heap → (List AVal → Prop) → Prop
  | [], _, _, k => k []
  | .tmp t :: rest, ts, m, k => resGo P rest ts m fun l => k (ts t :: l)
  | .cell x t :: rest, ts, m, k => match ts x, tk P t with
    | .ptr b o, some (a, n) => match m b with
      | some (.cells cs _) => rok a n cs o ∧ resGo P rest ts m fun l => k (rcell a n cs o :: l)
      | _ => False
    | _, _ => False
def mkRes : List AVal → AVal
  | [v] => v
  | l => .tuple l
/-- What must hold where a function's body is left. -/
def bodyA (P : Program) (fn : Func) (K : AVal → Heap → Prop) : Exit → TS → Heap → Prop
  | .normal, ts, m | .ret, ts, m => resGo P fn.results.toList ts m fun l => K (mkRes l) m
  | _, _, _ => False

/-- A block that is no cells may be shut. -/
theorem shut_step {P : Program} {m : Heap} {w : World} (hs : Sat m w) {D : Nat} (hm : m D = none) (hD : w.heap[D]? = some (.deferred (some []))) :
    ∃ w', (Instr.takeDeferred D).run P w = .ok [] w' ∧ w'.heap.size = w.heap.size ∧ w'.os = w.os ∧ w'.tape = w.tape ∧ (w'.output = w.output ∧ w.drawn ≤ w'.drawn) ∧ (∀ b, b ≠ D → w'.heap[b]? = w.heap[b]?) ∧ w'.heap[D]? = some (.deferred none) := by
  have hlt : D < w.heap.size := (Array.getElem?_eq_some_iff.1 hD).1
  refine ⟨{ w with heap := w.heap.setIfInBounds D (.deferred none) }, ?_, by simp, rfl, rfl, ⟨rfl, Nat.le_refl _⟩, fun b hb => ?_, ?_⟩
  · simp [Instr.takeDeferred, getObj, setObj, Sem.run, hD]
  · simp only [Array.getElem?_setIfInBounds]; rw [if_neg (fun h => hb h.symm)]
  · simp [hlt]


theorem VRel.shut {m : Heap} {w w' : World} {D : Nat} {v : AVal} {x : Value} (h : VRel m w v x) (hD : ∀ i, w.cell? ⟨D, i, none⟩ = none) (hsz : w'.heap.size = w.heap.size) (hh : ∀ b, b ≠ D → w'.heap[b]? = w.heap[b]?) : VRel m w' v x := by
  have hc' : ∀ b i y, w.cell? ⟨b, i, none⟩ = some y → w'.cell? ⟨b, i, none⟩ = some y := by
    intro b i y hc
    have hb : b ≠ D := fun e => by rw [e, hD] at hc; cases hc
    rw [← hc]; exact cell_of_heap (a := ⟨b, i, none⟩) (hh b hb)
  induction h with
  | undef v => exact .undef v
  | bool b => exact .bool b
  | int k n => exact .int k n
  | str s => exact .str s
  | nilp => exact .nilp
  | ptr b o => exact .ptr b o
  | rptr cs o b off f hm hb hc _ ih => exact .rptr cs o b off f hm (by omega) (fun i hi => hc' _ _ _ (hc i hi)) ih
  | nils => exact .nils
  | slice b o len cap => exact .slice b o len cap
  | list0 sz a cap => exact .list0 sz a cap
  | list sz xs b off cap f hm hb hcap hsz' hc _ ih => exact .list sz xs b off cap f hm (by omega) hcap hsz' (fun i j hi hj => hc' _ _ _ (hc i j hi hj)) ih
  | nilmap => exact .nilmap
  | map b => exact .map b
  | func fn fs cs fs' cs' h1 h2 _ _ ih1 ih2 => exact .func fn fs cs fs' cs' h1 h2 ih1 ih2
  | nilf => exact .nilf
  | iface t v x _ ih => exact .iface t v x ih
  | nili => exact .nili
  | agg cs vs h _ ih => exact .agg cs vs h ih
  | tuple cs vs h _ ih => exact .tuple cs vs h ih

def resOf (tmps : Array Value) : ResultVar → Sem Value
  | .tmp t => pure (tmps.getD t Go.undef)
  | .cell a t => do loadVar t (← asAddr (tmps.getD a Go.undef))
theorem run_results {P : Program} {N : Nat} {m : Heap} {w : World} {ts : TS} {a : Act} (hs : Sat m w) (ht : TRel N m w ts a) : ∀ (rs : List ResultVar) (k : List AVal → Prop), resGo P rs ts m k →
    ∃ (l : List AVal) (vs : List Value), k l ∧ (rs.mapM (resOf a.tmps)).run P w = .ok vs w ∧ l.length = vs.length ∧ ∀ i, i < l.length → VRel m w (l.getD i .undef) (vs.getD i Go.undef)
  | [], k, h => ⟨[], [], h, rfl, rfl, fun i hi => by simp at hi⟩
  | .tmp t :: rest, k, h => by
    obtain ⟨l, vs, h1, h2, h3, h4⟩ := run_results hs ht rest _ h
    refine ⟨ts t :: l, a.tmps.getD t Go.undef :: vs, h1, ?_, by simp [h3], fun i hi => ?_⟩
    · simp only [List.mapM_cons, Sem.run_bind, Sem.run_pure, Result.andThen_ok, h2, resOf]
    · cases i with
      | zero => exact ht.vals t
      | succ i => simpa [List.getD_eq_getElem?_getD] using h4 i (by simpa using hi)
  | .cell x t :: rest, k, h => by
    simp only [resGo] at h
    have hx := ht.vals x
    split at h
    · rename_i b o a' n hb htk
      rw [hb] at hx
      have hev : a.tmps.getD x Go.undef = .pointer (some ⟨b, o, none⟩) := by
        revert hx; generalize a.tmps.getD x Go.undef = z; intro hx; cases hx; rfl
      split at h
      · rename_i cs N hm
        obtain ⟨hok, h⟩ := h
        obtain ⟨l, vs, h1, h2, h3, h4⟩ := run_results hs ht rest _ h
        obtain ⟨v, hv, hr⟩ := run_loadVar (P := P) htk b 0 o cs hok (cells_at (hs b _ hm))
        rw [Nat.zero_add] at hv
        refine ⟨rcell a' n cs o :: l, v :: vs, h1, ?_, by simp [h3], fun i hi => ?_⟩
        · simp only [List.mapM_cons, Sem.run_bind, Result.andThen_ok, resOf, hev, asAddr, Sem.run_pure, hv, h2]
        · cases i with
          | zero => exact hr
          | succ i => simpa [List.getD_eq_getElem?_getD] using h4 i (by simpa using hi)
      · exact h.elim
    · exact h.elim
theorem run_results' {P : Program} {N : Nat} {m : Heap} {w : World} {ts : TS} {a : Act} {fn : Func} (hs : Sat m w) (ht : TRel N m w ts a) (k : List AVal → Prop) (h : resGo P fn.results.toList ts m k) :
    ∃ (l : List AVal) (x : Value), k l ∧ (results fn a.tmps).run P w = .ok x w ∧ VRel m w (mkRes l) x := by
  obtain ⟨l, vs, h1, h2, h3, h4⟩ := run_results hs ht _ k h
  refine ⟨l, if h : vs.toArray.size = 1 then vs.toArray[0] else .tuple vs.toArray, h1, ?_, ?_⟩
  · have e : results fn a.tmps = (do
        let vs ← fn.results.mapM (resOf a.tmps)
        pure (if h : vs.size = 1 then vs[0] else .tuple vs)) := by
      unfold results
      congr 1
    rw [e, Array.mapM_eq_mapM_toList]
    simp only [Sem.run_bind, Sem.run_map, h2, Result.andThen_ok, Sem.run_pure]
  · match l, vs, h3, h4 with
    | [v], [x], _, h4 => simpa [mkRes] using h4 0 (by simp)
    | [], [], _, _ => exact .tuple [] #[] rfl (fun i hi => by simp at hi)
    | v :: u :: l, x :: y :: vs, h3, h4 =>
      have : ¬ ((x :: y :: vs).toArray.size = 1) := by simp
      rw [dif_neg this]
      refine .tuple _ _ (by simpa using h3) (fun i hi => ?_)
      have := h4 i hi
      simpa [Array.getD_eq_getD_getElem?, List.getD_eq_getElem?_getD] using this

theorem leaves {P : Program} {F : Fence} {n : Nat} {N : Nat} {m0 : Heap} {w0 : World} {fn : Func} {m : Heap} {ts : TS} {a : Act} {K : AVal → Heap → Prop} (h : resGo P fn.results.toList ts m fun l => K (mkRes l) m) :
    ∀ (ds : List Deferred) (w : World), Sat m w → TRel N m w ts a → Ext m0 w0 m w → DefOK w0.heap.size m w ds →
      LeavesInM F n P fn a.tmps (fun e w' => ∃ cv v m', e = .returned cv ∧ K v m' ∧ VRel m' w' v cv ∧ Sat m' w' ∧ Ext m0 w0 m' w') ds .returning w
  | [], w, hs, ht, he, _ => by
    obtain ⟨l, x, h1, h2, h3⟩ := run_results' hs ht _ h
    exact ⟨x, h2, x, mkRes l, m, rfl, h1, h3, hs, he⟩
  | d :: ds, w, hs, ht, he, hd => by
    obtain ⟨⟨D, rfl, hB, hm, hD, hne⟩, hds⟩ := hd
    obtain ⟨w', r1, r2, r3, r4, r5, r6, r7⟩ := shut_step (P := P) hs hm hD
    have hcell : ∀ i, w.cell? ⟨D, i, none⟩ = none := fun i => by simp [World.cell?, hD]
    refine ⟨by simp, .inl ⟨D, w', rfl, r1, ?_⟩⟩
    have hsat : Sat m w' := by
      intro b x hb
      have hbD : b ≠ D := fun e => by rw [e, hm] at hb; cases hb
      rw [r6 b hbD]
      have := hs b x hb
      cases x with
      | cells cs N => obtain ⟨arr, ty, h1, h2, h3, h4⟩ := this; exact ⟨arr, ty, h1, h2, h3, fun i hi => (h4 i hi).shut hcell r2 r6⟩
      | map es bs cl => obtain ⟨a, h1, h2, h3, h4, h5, h6, h7⟩ := this; exact ⟨a, h1, h2, h3, h4, h5, h6, fun i hi => ⟨(h7 i hi).1, (h7 i hi).2.shut hcell r2 r6⟩⟩
      | obj o' => exact this
      | loop N ts ps a b st pe => obtain ⟨fn, tmps, D, h1, h2, h3⟩ := this; exact ⟨fn, tmps, D, h1, h2, fun t => (h3 t).shut hcell r2 r6⟩
    refine leaves h ds w' hsat ⟨ht.size, fun t => (ht.vals t).shut hcell r2 r6⟩ ?_ ?_
    · refine ⟨by rw [r2]; exact he.size, r3.trans he.os, r4.trans he.tape, ⟨r5.1.trans he.output.1, Nat.le_trans he.output.2 r5.2⟩, fun b hb hb0 => ?_⟩
      obtain ⟨k1, k2⟩ := he.keep b hb hb0
      exact ⟨(r6 b (by omega)).trans k1, k2⟩
    · clear h
      induction ds with
      | nil => trivial
      | cons d' ds ih =>
        obtain ⟨⟨D', h1, h2, h3, h4, h5⟩, h6⟩ := hds
        have hDD : D' ≠ D := fun e => hne d' (by simp) (by rw [h1, e])
        exact ⟨⟨D', h1, h2, h3, (r6 D' hDD).trans h4, h5⟩, ih h6 (fun x hx => hne x (by simp [hx]))⟩

/-- A function's contract from its body. -/
theorem callWP_of {P : Program} {G : Nat → AVal} {f : FuncId} {fn : Func} {c : Code} {args : List AVal} {m : Heap} {K : AVal → Heap → Prop} (hf : P.funcs[f]? = some fn) (hb : fn.body = some c) (he : enters P f = true) (hn : args.length ≤ fn.ntmps)
    (h : run P G fn.ntmps none c (bodyA P fn K) (fun t => args.getD t (.tuple [])) m) : CallWP P G f args m K := by
  refine .inl ⟨he, fun w cargs hs hg hl hv => ?_⟩
  refine (callsIn_wide (n := 0)).1 ?_
  refine callsIn_of_wp_marks hf hb trivial ?_ rfl
  have ht : TRel fn.ntmps m w (fun t => args.getD t (.tuple [])) { tmps := cargs ++ Array.replicate (fn.ntmps - cargs.size) Go.undef, defers := [] } := by
    refine ⟨by simp; omega, fun t => ?_⟩
    by_cases h1 : t < args.length
    · have := hv t h1
      have e1 : args.getD t (.tuple []) = args.getD t .undef := by simp [List.getD_eq_getElem?_getD, h1]
      have e2 : (cargs ++ Array.replicate (fn.ntmps - cargs.size) Go.undef).getD t Go.undef = cargs.getD t Go.undef := by
        simp only [Array.getD_eq_getD_getElem?]; rw [Array.getElem?_append_left (by omega)]
      simp only [e1, e2]; exact this
    · have e1 : args.getD t (.tuple []) = .tuple [] := by simp [List.getD_eq_getElem?_getD, List.getElem?_eq_none (Nat.le_of_not_lt h1)]
      have e2 : (cargs ++ Array.replicate (fn.ntmps - cargs.size) Go.undef).getD t Go.undef = Go.undef := by
        simp only [Array.getD_eq_getD_getElem?]; rw [Array.getElem?_append_right (by omega)]
        simp only [Array.getElem?_replicate]; split <;> rfl
      simp only [e1, e2]
      exact .tuple [] #[] rfl (fun i hi => by simp at hi)
  have := run_sound c _ _ m h w.heap.size w _ (Nat.le_refl _) hs hg ht trivial
  refine wpIn_mono this ?_
  rintro e a' w' ⟨ts', m', hk, hs', ht', he', hd'⟩
  cases e with
  | normal => exact leaves hk _ _ hs' ht' he' hd'
  | ret => exact leaves hk _ _ hs' ht' he' hd'
  | _ => exact hk.elim

end Go.Proofs.YtdckcophbmnjjaaGreatDoor.Ab
namespace Go.Proofs.YtdckcophbmnjjaaGreatDoor.Ab
open Go

/-! ### What is asked behind may be less -/
def D.Mono (d : D) : Prop := ∀ (m : Heap) (K K' : AVal → Heap → Prop), (∀ v m', K v m' → K' v m') → d.run m K → d.run m K'
def D.noEff : D → Bool
  | .eff _ => false
  | _ => true
theorem D.Mono.of {d : D} (h : d.noEff = true) : d.Mono := by
  intro m K K' hk hr
  cases d with
  | fail => exact hr
  | pure c v => exact ⟨hr.1, hk _ _ hr.2⟩
  | read p c f =>
    simp only [D.run] at hr ⊢
    split at hr
    · exact ⟨hr.1, hk _ _ hr.2⟩
    · exact hr
  | alloc c x mk => exact ⟨hr.1, fun b hb => hk _ _ (hr.2 b hb)⟩
  | write p c f v =>
    simp only [D.run] at hr ⊢
    split at hr
    · exact ⟨hr.1, hk _ _ hr.2⟩
    · exact hr
  | eff T => simp [D.noEff] at h

theorem src_mono {sz : Nat} {m : Heap} {x : AVal} {k k' : Nat → List AVal → Prop} (h : ∀ n ys, k n ys → k' n ys) (hs : src sz m x k) : src sz m x k' := by
  unfold src at hs ⊢
  split
  · exact h _ _ hs
  · exact ⟨hs.1, h _ _ hs.2⟩
  · simp only at hs
    split at hs
    · exact ⟨hs.1, h _ _ hs.2⟩
    · exact hs
  · simp_all
theorem aappend_mono {P : Program} {st xt : TypeId} {s x : AVal} : (D.eff (aappend P st xt s x)).Mono := by
  intro m K K' hk hr
  simp only [D.run] at hr ⊢
  unfold aappend at hr ⊢
  have to : ∀ sz by' n ys, appTo sz by' n ys s m K → appTo sz by' n ys s m K' := by
    intro sz by' n ys h
    unfold appTo at h ⊢
    split
    · exact ⟨fun h0 => hk _ _ (h.1 h0), fun h0 => ⟨(h.2 h0).1, fun b cap hb hc => hk _ _ ((h.2 h0).2 b cap hb hc)⟩⟩
    · simp only at h
      split at h
      · exact ⟨h.1, fun h0 => hk _ _ (h.2.1 h0), fun h0 => ⟨(h.2.2 h0).1, fun b cap hb hc => hk _ _ ((h.2.2 h0).2 b cap hb hc)⟩⟩
      · exact h.elim
    · simp_all
  generalize P.underlying st = u at hr ⊢
  rcases u with _ | u
  · exact hr
  cases u <;> try exact hr
  rename_i e
  simp only at hr ⊢
  generalize tk P e = a at hr ⊢
  generalize eb P e = b at hr ⊢
  rcases a with _ | ⟨a, sz⟩
  · exact hr
  rcases b with _ | by'
  · exact hr
  simp only at hr ⊢
  refine ⟨hr.1, ?_⟩
  have h2 := hr.2
  unfold appSrc at h2 ⊢
  by_cases hi : isInt P xt = true
  · rw [if_pos hi] at h2 ⊢
    cases x <;> try exact h2
    simp only at h2 ⊢
    generalize zc P e = z at h2 ⊢
    rcases z with _ | z
    · exact h2
    · simp only at h2 ⊢
      exact ⟨h2.1, h2.2.1, h2.2.2.1, h2.2.2.2.1, h2.2.2.2.2.1, to _ _ _ _ h2.2.2.2.2.2⟩
  · rw [if_neg hi] at h2 ⊢
    exact src_mono (fun n ys h => ⟨h.1, to _ _ _ _ h.2⟩) h2
theorem acopy_mono {P : Program} {dt : TypeId} {d x : AVal} : (D.eff (acopy P dt d x)).Mono := by
  intro m K K' hk hr
  simp only [D.run] at hr ⊢
  unfold acopy at hr ⊢
  generalize P.underlying dt = u at hr ⊢
  rcases u with _ | u
  · exact hr
  cases u <;> try exact hr
  rename_i e
  simp only at hr ⊢
  generalize tk P e = a at hr ⊢
  rcases a with _ | ⟨a, sz⟩
  · exact hr
  simp only at hr ⊢
  refine src_mono (fun n ys h => ?_) hr
  cases d <;> try exact h
  · exact hk _ _ h
  · simp only at h ⊢
    split
    · simp_all
    · simp_all

theorem arange_mono {P : Program} {t : TypeId} {x : AVal} : (arange P t x).Mono := by
  unfold arange
  repeat' split
  all_goals first | exact D.Mono.of rfl | skip
  intro m K K' hk hr
  simp only [D.run, arangeG] at hr ⊢
  split at hr
  · exact fun r h => hk _ _ (hr r h)
  · exact hr
theorem anext_mono {s : Bool} {x : AVal} : (anext s x).Mono := by
  unfold anext
  repeat' split
  all_goals first | exact D.Mono.of rfl | skip
  intro m K K' hk hr
  simp only [D.run, anextG] at hr ⊢
  split at hr
  · exact hk _ _ hr
  · split at hr
    · exact ⟨hr.1, hr.2.1, fun h => hk _ _ (hr.2.2.1 h), fun i h1 h2 => hk _ _ (hr.2.2.2 i h1 h2)⟩
    · exact hr
  · exact hr
theorem aentry_mono {x : AVal} : (aentry x).Mono := by
  unfold aentry
  split
  · intro m K K' hk hr
    simp only [D.run, aentryG] at hr ⊢
    split at hr
    · split at hr
      · obtain ⟨h1, i, h2, h3, h4⟩ := hr
        exact ⟨h1, i, h2, h3, hk _ _ h4⟩
      · exact hr
    · exact hr
  · exact D.Mono.of rfl
theorem noEff_den {P : Program} {e : Operand → AVal} {op : Op} (hb : ∀ o t x y t', op ≠ .binOp o t x y t') (hc : ∀ c, op ≠ .call c) (hr : ∀ t x, op ≠ .range t x) (hn : ∀ x s, op ≠ .next x s) (he : ∀ x, op ≠ .entry x) : (den P e op).noEff = true := by
  cases op <;> simp only [den] <;> first | rfl | skip
  case call c => exact absurd rfl (hc c)
  case pick c x y => unfold apk; split <;> rfl
  case alloc t => unfold aalloc; split <;> rfl
  case box t v => unfold abox; split <;> rfl
  case build t ps => unfold abuild; repeat' split
                     all_goals rfl
  case buildSlice t n ps => unfold abuildSlice; repeat' split
                            all_goals rfl
  case load t a => unfold aload; repeat' split
                   all_goals rfl
  case store t a v => unfold astore; repeat' split
                      all_goals rfl
  case nilCheck x => unfold anil; repeat' split
                     all_goals rfl
  case binOp op t x y t' => exact absurd rfl (hb _ _ _ _ _)
  case unOp op t x => unfold aun; repeat' split
                      all_goals rfl
  case convert s d x => unfold aconv; repeat' split
                        all_goals rfl
  case makeInterface t x => unfold aiface; repeat' split
                            all_goals rfl
  case makeSlice t l c => unfold amake; repeat' split
                          all_goals rfl
  case slice t x lo hi mx => unfold aslice; repeat' split
                             all_goals rfl
  case fieldAddr t x f => unfold afieldAddr; repeat' split
                          all_goals rfl
  case field t x f => unfold afield; repeat' split
                      all_goals rfl
  case indexAddr t x i => unfold aindexAddr; repeat' split
                          all_goals rfl
  case index t x i => unfold aindex; repeat' split
                      all_goals rfl
  case typeAssert x xt t ok => unfold aassert; repeat' split
                               all_goals rfl
  case extract x i => unfold aextract; repeat' split
                      all_goals rfl
  case makeMap t r => repeat' split
                      all_goals first | rfl | (unfold amakeMap; repeat' split)
                      all_goals rfl
  case lookup t x k ok => unfold alookup; repeat' split
                          all_goals rfl
  case mapUpdate t x k v => unfold amapUpdate; repeat' split
                            all_goals rfl
  case insert t x k v => unfold amapUpdate; repeat' split
                         all_goals rfl
  case range t x => exact absurd rfl (hr t x)
  case next x s => exact absurd rfl (hn x s)
  case entry x => exact absurd rfl (he x)

theorem abin_mono {P : Program} {op : BinOp} {t : TypeId} {x y : AVal} : (abin P op t x y).Mono := by
  have h1 : ∀ neg, (aeqop P neg t x y).Mono := fun neg => by
    unfold aeqop
    split
    · exact D.Mono.of rfl
    · unfold aeqAny
      split
      · split
        · exact fun m K K' hk hr b => hk _ _ (hr b)
        · exact D.Mono.of rfl
      · exact D.Mono.of rfl
  unfold abin
  split
  · refine D.Mono.of ?_
    unfold anum; split <;> rfl
  · split
    · exact h1 _
    · exact h1 _
    · exact D.Mono.of rfl
theorem den_mono {P : Program} {e : Operand → AVal} {op : Op} : (den P e op).Mono := by
  by_cases hc : ∃ c, op = .call c
  · obtain ⟨c, rfl⟩ := hc
    simp only [den]
    unfold acall abuiltin
    repeat' split
    all_goals first
      | exact aappend_mono
      | exact acopy_mono
      | (refine D.Mono.of ?_; first | rfl | (unfold alen; repeat' split
                                             all_goals rfl) | (unfold acap; repeat' split
                                                               all_goals rfl) | (unfold amm; repeat' split
                                                                                 all_goals rfl) | (unfold aclear; repeat' split
                                                                                                   all_goals rfl))
  · by_cases hr : ∃ t x, op = .range t x
    · obtain ⟨t, x, rfl⟩ := hr
      exact arange_mono
    by_cases hn : ∃ x s, op = .next x s
    · obtain ⟨x, s, rfl⟩ := hn
      exact anext_mono
    by_cases he : ∃ x, op = .entry x
    · obtain ⟨x, rfl⟩ := he
      exact aentry_mono
    by_cases hb : ∃ o t x y t', op = .binOp o t x y t'
    · obtain ⟨o, t, x, y, t', rfl⟩ := hb
      exact abin_mono
    exact D.Mono.of (noEff_den (fun o t x y t' h => hb ⟨o, t, x, y, t', h⟩) (fun c h => hc ⟨c, h⟩) (fun t x h => hr ⟨t, x, h⟩) (fun x s h => hn ⟨x, s, h⟩) fun x h => he ⟨x, h⟩)

theorem opGo_mono {P : Program} {G : Nat → AVal} {e : Operand → AVal} {op : Op} {m : Heap} {K K' : AVal → Heap → Prop} (hk : ∀ v m', K v m' → K' v m') (h : opGo P G e op m K) : opGo P G e op m K' := by
  unfold opGo at h ⊢
  split
  · simp_all
    exact h.mono hk
  · split
    · simp_all
      exact SpecWP.mono h hk
    · simp_all
      exact den_mono m K K' hk h
theorem den_callOf {P : Program} {e : Operand → AVal} {op : Op} {x : FuncId × List AVal} (h : callOf e op = some x) : den P e op = .fail := by
  unfold callOf at h
  split at h
  · rename_i c
    split at h
    · rename_i f hf
      simp only [den, acall, hf]
    · simp at h
  · simp at h
theorem den_specOf {P : Program} {e : Operand → AVal} {op : Op} {x : Spec × List AVal} (h : specOf e op = some x) : den P e op = .fail := by
  unfold specOf at h
  split at h
  · rename_i c
    split at h
    · rename_i f hf
      simp only [den, acall, hf]
    · rename_i f name hf
      simp only [den, acall, hf]
    · simp at h
  · simp at h
theorem opGo_of_den {P : Program} {G : Nat → AVal} {e : Operand → AVal} {op : Op} {m : Heap} {K : AVal → Heap → Prop} (h : (den P e op).run m K) : opGo P G e op m K := by
  unfold opGo
  split
  · rename_i hc
    rw [den_callOf hc] at h
    exact h.elim
  · split
    · rename_i hc
      rw [den_specOf hc] at h
      exact h.elim
    · exact h

end Go.Proofs.YtdckcophbmnjjaaGreatDoor.Ab
