/- What a statement's operations come to, one behind the other; calls by what is known of them. -/
import Derived.Test.YtcdhihoghkkahaaAb9
import Derived.TacticsIn
set_option linter.all false
namespace Go.Proofs.Ytcdhihoghkkahaa.Ab
open Go

def aparts (e : Operand → AVal) (ps : Array (Nat × Operand)) : List (Nat × AVal) := ps.toList.map fun p => (p.1, e p.2)
def anil : AVal → D
  | .ptr b o => .pure True (.ptr b o)
  | .rptr cs o => .pure True (.rptr cs o)
  | .func (.func f) a b => .pure True (.func (.func f) a b)
  | .func (.yield f) a b => .pure True (.func (.yield f) a b)
  | .iface t v => .pure True (.iface t v)
  | _ => .fail
def abuiltin (P : Program) (b : Builtin) (ts : List TypeId) (xs : List AVal) : D :=
  match b, ts, xs with
  | .len, [t], [x] => alen P t x
  | .cap, [t], [x] => acap P t x
  | .min, _, xs => amm false xs
  | .max, _, xs => amm true xs
  | .append, [st, xt], [s, x] => .eff (aappend P st xt s x)
  | .copy, [dt, _], [d, x] => .eff (acopy P dt d x)
  | .clear, [t], [x] => match P.underlying t with
    | some _ => aclear P t x
    | none => .fail
  | _, _, _ => .fail
def acall (P : Program) (e : Operand → AVal) (c : Call) : D :=
  match c.callee with
  | .builtin b => abuiltin P b c.argTypes.toList (c.args.toList.map e)
  | _ => .fail
def apk (x : AVal) (a b : AVal) : D := match x with
  | .bool t => .pure True (apick t a b)
  | _ => .fail
/-- What an operation comes to, its operands being what e says. -/
def den (P : Program) (e : Operand → AVal) : Op → D
  | .move x => .pure True (e x)
  | .assign x => .pure True (e x)
  | .pick c a b => apk (e c) (e a) (e b)
  | .alloc t => aalloc P t
  | .box t v => abox t (e v)
  | .build t ps => abuild P t (aparts e ps)
  | .buildSlice t n ps => abuildSlice P t n (aparts e ps)
  | .load t a => aload P t (e a)
  | .store t a v => astore P t (e a) (e v)
  | .nilCheck x => anil (e x)
  | .binOp op t x y _ => abin P op t (e x) (e y)
  | .unOp op _ x => aun op (e x)
  | .convert s d x => aconv P s d (e x)
  | .makeInterface t x => aiface P t (e x)
  | .makeFunc fn fs cs => .pure True (.func fn (fs.toList.map e) (cs.toList.map e))
  | .makeSlice t l c => amake P t (e l) (e c)
  | .slice t x lo hi mx => aslice P t (e x) (lo.map e) (hi.map e) (mx.map e)
  | .fieldAddr t x f => afieldAddr P t f (e x)
  | .field t x f => afield P t f (e x)
  | .indexAddr t x i => aindexAddr P t (e x) (e i)
  | .index t x i => aindex P t (e x) (e i)
  | .typeAssert x _ t ok => aassert P t ok (e x)
  | .extract x i => aextract i (e x)
  | .call c => acall P e c
  | _ => .fail

/-- The model's operation ends as told. -/
def OpEnds (P : Program) (s : Sem Next) (w : World) (m : Heap) (K : AVal → Heap → Prop) : Prop :=
  ∃ nxt w' x v m', s.run P w = .ok nxt w' ∧ (nxt = .value x ∨ (nxt = .skip ∧ x = Go.undef)) ∧ K v m' ∧ VRel m' w' v x ∧ Sat m' w' ∧ Ext m w m' w'
theorem OpEnds.of {P : Program} {s : Sem Value} {w : World} {m : Heap} {K : AVal → Heap → Prop} (h : Ends P s w m K) : OpEnds P (do pure (.value (← s))) w m K := by
  obtain ⟨x, w', v, m', h1, h2⟩ := h
  exact ⟨.value x, w', x, v, m', by simp [h1], .inl rfl, h2⟩
theorem OpEnds.ofUnit {P : Program} {s : Sem Unit} {w : World} {m : Heap} {K : AVal → Heap → Prop} (h : Ends P (do s; pure Go.undef) w m K) : OpEnds P (do s; pure .skip) w m K := by
  obtain ⟨x, w', v, m', h1, h2⟩ := h
  simp only [Sem.run_bind] at h1
  cases hs : s.run P w with
  | ok u w1 =>
    simp only [hs, Result.andThen_ok, Sem.run_pure, Result.ok.injEq] at h1
    obtain ⟨rfl, rfl⟩ := h1
    exact ⟨.skip, w1, Go.undef, v, m', by simp [hs], .inr ⟨rfl, rfl⟩, h2⟩
  | halt h w1 => simp [hs] at h1

/-- The function that an operation calls, and its arguments. -/
def callOf (e : Operand → AVal) : Op → Option (FuncId × List AVal)
  | .call c => match c.callee with
    | .value f => match e f with
      | .func (.func g) fs cs => some (g, fs ++ c.args.toList.map e ++ cs)
      | _ => none
    | _ => none
  | _ => none

theorem brelO {m : Heap} {w : World} {G : Nat → AVal} {N : Nat} {ts : TS} {a : Act} (hg : GOk G m w) (ht : TRel N m w ts a) (x : Option Operand) : BRelO m w (x.map (ev G ts)) (x.map a.eval) := by
  cases x with
  | none => trivial
  | some x => exact ev_rel hg ht x
theorem vrel_map {m : Heap} {w : World} {G : Nat → AVal} {N : Nat} {ts : TS} {a : Act} (hg : GOk G m w) (ht : TRel N m w ts a) (xs : Array Operand) :
    (xs.toList.map (ev G ts)).length = (xs.map a.eval).size ∧ ∀ i, i < (xs.toList.map (ev G ts)).length → VRel m w ((xs.toList.map (ev G ts)).getD i .undef) ((xs.map a.eval).getD i Go.undef) := by
  refine ⟨by simp, fun i hi => ?_⟩
  have hi' : i < xs.size := by simpa using hi
  simp [List.getD_eq_getElem?_getD, Array.getD_eq_getD_getElem?, hi']
  exact ev_rel hg ht _
theorem parts_rel {m : Heap} {w : World} {G : Nat → AVal} {N : Nat} {ts : TS} {a : Act} (hg : GOk G m w) (ht : TRel N m w ts a) (ps : Array (Nat × Operand)) :
    (aparts (ev G ts) ps).length = (ps.map fun (i, x) => (i, a.eval x)).size ∧ ∀ i, i < (aparts (ev G ts) ps).length → ((aparts (ev G ts) ps).getD i (0, .undef)).1 = ((ps.map fun (i, x) => (i, a.eval x)).toList.getD i (0, Go.undef)).1 ∧
      VRel m w ((aparts (ev G ts) ps).getD i (0, .undef)).2 ((ps.map fun (i, x) => (i, a.eval x)).toList.getD i (0, Go.undef)).2 := by
  refine ⟨by simp [aparts], fun i hi => ?_⟩
  have hi' : i < ps.size := by simpa [aparts] using hi
  simp [aparts, List.getD_eq_getElem?_getD, hi']
  exact ev_rel hg ht _

theorem builtin_tells {P : Program} {w : World} {m : Heap} {b : Builtin} {ts : Array TypeId} {ty : TypeId} {cs : Array Bool} {xs : List AVal} {xs' : Array Value} (hs : Sat m w) (hl : xs.length = xs'.size)
    (hx : ∀ i, i < xs.length → VRel m w (xs.getD i .undef) (xs'.getD i Go.undef)) (K : AVal → Heap → Prop) (hK : (abuiltin P b ts.toList xs).run m K) : OpEnds P (builtin b ts ty cs xs') w m K := by
  have one : ∀ x, xs = [x] → ∃ x', xs' = #[x'] ∧ VRel m w x x' := by
    rintro x rfl
    obtain ⟨l⟩ := xs'
    match l, hl, hx with
    | [p], _, hx => exact ⟨p, rfl, by simpa using hx 0 (by simp)⟩
  have two : ∀ x y, xs = [x, y] → ∃ x' y', xs' = #[x', y'] ∧ VRel m w x x' ∧ VRel m w y y' := by
    rintro x y rfl
    obtain ⟨l⟩ := xs'
    match l, hl, hx with
    | [p, q], _, hx => exact ⟨p, q, rfl, by simpa using hx 0 (by simp), by simpa using hx 1 (by simp)⟩
  have t1 : ∀ t, ts.toList = [t] → ts = #[t] := by
    intro t h; obtain ⟨l⟩ := ts; simp at h; rw [h]
  have t2 : ∀ t u, ts.toList = [t, u] → ts = #[t, u] := by
    intro t u h; obtain ⟨l⟩ := ts; simp at h; rw [h]
  unfold abuiltin at hK
  split at hK
  · rename_i t x ht
    obtain ⟨x', rfl, hv⟩ := one x rfl
    rw [t1 t ht]
    exact OpEnds.of (alen_tells hs hv K hK)
  · rename_i t x ht
    obtain ⟨x', rfl, hv⟩ := one x rfl
    rw [t1 t ht]
    exact OpEnds.of (acap_tells hs hv K hK)
  · exact OpEnds.of ((amin_tells hs hl hx).1 K hK)
  · exact OpEnds.of ((amin_tells hs hl hx).2 K hK)
  · rename_i st xt s x ht
    obtain ⟨s', x', rfl, hv1, hv2⟩ := two s x rfl
    rw [t2 st xt ht]
    exact OpEnds.of (aappend_tells hs hv1 hv2 K hK)
  · rename_i st xt s x ht
    obtain ⟨s', x', rfl, hv1, hv2⟩ := two s x rfl
    rw [t2 st xt ht]
    exact OpEnds.of (acopy_tells hs hv1 hv2 K hK)
  · rename_i t x ht
    obtain ⟨x', rfl, hv⟩ := one x rfl
    rw [t1 t ht]
    split at hK
    · rename_i d hd
      exact OpEnds.of (aclear_tells hs hv (by rw [hd]; rfl) K hK)
    · exact hK.elim
  · exact hK.elim

theorem den_tells {P : Program} {G : Nat → AVal} {N : Nat} {m : Heap} {w : World} {ts : TS} {a : Act} (hs : Sat m w) (hg : GOk G m w) (ht : TRel N m w ts a) (o : Oper) (K : AVal → Heap → Prop)
    (hK : (den P (ev G ts) o.op).run m K) : OpEnds P (execOp a.eval o) w m K := by
  have E := fun x => ev_rel hg ht x
  have pureV : ∀ (v : AVal) (x : Value), VRel m w v x → K v m → OpEnds P (pure (.value x)) w m K :=
    fun v x hv hk => ⟨.value x, w, x, v, m, rfl, .inl rfl, hk, hv, hs, Ext.refl _ _⟩
  unfold execOp
  cases ho : o.op <;> rw [ho] at hK <;> simp only [den] at hK
  case move x => exact pureV _ _ (E x) hK.2
  case assign x => exact pureV _ _ (E x) hK.2
  case pick c x y =>
    unfold apk at hK
    split at hK
    · rename_i t ht'
      have hcv := E c
      rw [ht'] at hcv
      obtain ⟨hk1, hk2⟩ := hK
      have : a.eval c = .bool t := by
        revert hcv; generalize a.eval c = z; intro hcv; cases hcv; rfl
      refine ⟨.value (if t then a.eval x else a.eval y), w, _, _, m, ?_, .inl rfl, hk2, apick_rel (E x) (E y), hs, Ext.refl _ _⟩
      simp only [this, Sem.run_bind, asBool, Sem.run_pure, Result.andThen_ok]
    · exact hK.elim
  case alloc t => exact OpEnds.of (aalloc_tells hs K hK)
  case box t v => exact OpEnds.of (abox_tells hs (E v) K hK)
  case build t ps =>
    obtain ⟨h1, h2⟩ := parts_rel hg ht ps
    exact OpEnds.of (abuild_tells hs h1 h2 K hK)
  case buildSlice t n ps =>
    obtain ⟨h1, h2⟩ := parts_rel hg ht ps
    exact OpEnds.of (abuildSlice_tells hs h1 h2 K hK)
  case load t x => exact OpEnds.of (aload_tells hs (E x) K hK)
  case store t x v => exact OpEnds.ofUnit (astore_tells hs (E x) (E v) K hK)
  case nilCheck x =>
    have hx := E x
    unfold anil at hK
    split at hK
    · rename_i b o' he; rw [he] at hx
      have := pureV _ _ hx hK.2
      cases hv : a.eval x <;> rw [hv] at hx <;> first | (cases hx; done) | skip
      cases hx; rw [hv] at this; simp only [hv]; exact this
    · rename_i b o' he; rw [he] at hx
      have := pureV _ _ hx hK.2
      cases hv : a.eval x <;> rw [hv] at hx <;> first | (cases hx; done) | skip
      cases hx; rw [hv] at this; simp only [hv]; exact this
    · rename_i f p q he; rw [he] at hx
      have := pureV _ _ hx hK.2
      cases hv : a.eval x <;> rw [hv] at hx <;> first | (cases hx; done) | skip
      cases hx; rw [hv] at this; simp only [hv]; exact this
    · rename_i f p q he; rw [he] at hx
      have := pureV _ _ hx hK.2
      cases hv : a.eval x <;> rw [hv] at hx <;> first | (cases hx; done) | skip
      cases hx; rw [hv] at this; simp only [hv]; exact this
    · rename_i t v he; rw [he] at hx
      have := pureV _ _ hx hK.2
      cases hv : a.eval x <;> rw [hv] at hx <;> first | (cases hx; done) | skip
      cases hx; rw [hv] at this; simp only [hv]; exact this
    · exact hK.elim
  case binOp op t x y t' => exact OpEnds.of (abin_tells hs (E x) (E y) K hK)
  case unOp op t x => exact OpEnds.of (aun_tells hs (E x) K hK)
  case convert s d x => exact OpEnds.of (aconv_tells hs (E x) K hK)
  case makeInterface t x => exact OpEnds.of (aiface_tells hs (E x) K hK)
  case makeFunc fn fs cs =>
    obtain ⟨h1, h2⟩ := vrel_map hg ht fs
    obtain ⟨h3, h4⟩ := vrel_map hg ht cs
    exact OpEnds.of (.here hs rfl hK.2 (.func _ _ _ _ _ h1 h3 h2 h4))
  case makeSlice t l c => exact OpEnds.of (amake_tells hs (E l) (E c) K hK)
  case slice t x lo hi mx => exact OpEnds.of (aslice_tells hs (E x) (brelO hg ht lo) (brelO hg ht hi) (brelO hg ht mx) K hK)
  case fieldAddr t x f => exact OpEnds.of (afieldAddr_tells hs (E x) K hK)
  case field t x f => exact OpEnds.of (afield_tells hs (E x) K hK)
  case indexAddr t x i => exact OpEnds.of (aindexAddr_tells hs (E x) (E i) K hK)
  case index t x i => exact OpEnds.of (aindex_tells hs (E x) (E i) K hK)
  case typeAssert x xt t ok => exact OpEnds.of (aassert_tells hs (E x) K hK)
  case extract x i => exact OpEnds.of (aextract_tells hs (E x) K hK)
  case call c =>
    unfold acall at hK
    split at hK
    · rename_i b hb
      obtain ⟨h1, h2⟩ := vrel_map hg ht c.args
      have := builtin_tells (P := P) (w := w) (ts := c.argTypes) (ty := o.type) (cs := c.args.map fun | .const _ => true | _ => false) hs h1 h2 K hK
      obtain ⟨nxt, w', x, v, m', r, q⟩ := this
      refine ⟨nxt, w', x, v, m', ?_, q⟩
      simp only [resolve, hb, Sem.run_bind, Sem.run_pure, Result.andThen_ok, invoke]
      exact r
    · exact hK.elim
  all_goals exact hK.elim

end Go.Proofs.Ytcdhihoghkkahaa.Ab
