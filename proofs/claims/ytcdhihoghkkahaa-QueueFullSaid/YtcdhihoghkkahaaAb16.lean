/- Functions: what was made on the way may be forgotten. -/
import Derived.Test.YtcdhihoghkkahaaAb15
import Derived.KernelRfl
set_option linter.all false
namespace Go.Proofs.Ytcdhihoghkkahaa.Ab
open Go

/-- What one memory says, another says too. -/
def Sub (m m' : Heap) : Prop := ∀ p x, m p = some x → m' p = some x
theorem Sub.refl (m : Heap) : Sub m m := fun _ _ h => h
theorem Sub.gone {m m' : Heap} (h : Sub m m') {p : Nat} (hp : m' p = none) : m p = none := by
  cases hm : m p with
  | none => rfl
  | some x => rw [h p x hm] at hp; cases hp
theorem Sub.fresh {m m' : Heap} {b : Nat} {x : ABlk} (h : Sub m m') (hb : m b = none) : Sub m (hupd m' b x) := by
  intro p y hp
  rw [hupd_ne (fun e => by rw [e, hb] at hp; cases hp)]
  exact h p y hp
theorem VRel.sub {m m' : Heap} {w : World} {v : AVal} {x : Value} (h : VRel m' w v x) (s : Sub m m') : VRel m w v x := by
  induction h with
  | undef v => exact .undef v
  | bool b => exact .bool b
  | int k n => exact .int k n
  | str s => exact .str s
  | nilp => exact .nilp
  | ptr b o => exact .ptr b o
  | rptr cs o b off f hm hb hc _ ih => exact .rptr cs o b off f (s.gone hm) hb hc ih
  | nils => exact .nils
  | slice b o len cap => exact .slice b o len cap
  | list0 sz a cap => exact .list0 sz a cap
  | list sz xs b off cap f hm hb hcap hsz hc _ ih => exact .list sz xs b off cap f (s.gone hm) hb hcap hsz hc ih
  | nilmap => exact .nilmap
  | map b => exact .map b
  | func fn fs cs fs' cs' h1 h2 _ _ ih1 ih2 => exact .func fn fs cs fs' cs' h1 h2 ih1 ih2
  | nilf => exact .nilf
  | iface t v x _ ih => exact .iface t v x ih
  | nili => exact .nili
  | agg cs vs h _ ih => exact .agg cs vs h ih
  | tuple cs vs h _ ih => exact .tuple cs vs h ih
theorem Sat.sub {m m' : Heap} {w : World} (h : Sat m' w) (s : Sub m m') : Sat m w := by
  intro b x hb
  have := h b x (s b x hb)
  cases x with
  | cells cs N => obtain ⟨arr, ty, h1, h2, h3, h4⟩ := this; exact ⟨arr, ty, h1, h2, h3, fun i hi => (h4 i hi).sub s⟩
  | map es => obtain ⟨a, c, h1, h2, h3, h4, h5, k, h6⟩ := this; exact ⟨a, c, h1, h2, h3, h4, h5, k, fun i hi => ⟨(h6 i hi).1, (h6 i hi).2.sub s⟩⟩
  | obj o' => exact this
  | loop N ts ps a b st pe => obtain ⟨fn, tmps, D, h1, h2, h3⟩ := this; exact ⟨fn, tmps, D, h1, h2, fun t => (h3 t).sub s⟩
theorem Ext.sub {m m1 m' : Heap} {w w' : World} (h : Ext m w m' w') (s : Sub m1 m') : Ext m w m1 w' :=
  ⟨h.size, h.os, h.tape, h.output, fun b hb hm => ⟨(h.keep b hb hm).1, s.gone (h.keep b hb hm).2⟩⟩

/-- What holds of a part of the memory. -/
def Part (K : AVal → Heap → Prop) (v : AVal) (m' : Heap) : Prop := ∃ m1, Sub m1 m' ∧ K v m1
theorem CallWP.part {P : Program} {G : Nat → AVal} {f : FuncId} {args : List AVal} {m : Heap} {K : AVal → Heap → Prop} (h : CallWP P G f args m (Part K)) : CallWP P G f args m K :=
  h.elim (fun h => .inl ⟨h.1, fun w cargs hs hg hl hv => (h.2 w cargs hs hg hl hv).mono fun _ _ ⟨cv, v, m', h1, ⟨m1, s, hk⟩, h3, h4, h5⟩ => ⟨cv, v, m1, h1, hk, h3.sub s, h4.sub s, h5.sub s⟩⟩)
    (fun h => .inr fun w cargs hs hg hl hv => let ⟨x, v, m', h1, ⟨m1, s, hk⟩, h3, h4, h5⟩ := h w cargs hs hg hl hv; ⟨x, v, m1, h1, hk, h3.sub s, h4.sub s, h5.sub s⟩)

/-- A function that leaves the memory as it was, but for what it made: whatever the memory. -/
theorem callWP_fn {P : Program} {G : Nat → AVal} {f : FuncId} {fn : Func} {c : Code} {args : List AVal} {m : Heap} {K : AVal → Heap → Prop} (hf : P.funcs[f]? = some fn) (hb : fn.body = some c) (he : enters P f = true) (hn : args.length ≤ fn.ntmps)
    (h : run P G fn.ntmps none c (bodyA P fn (Part K)) (fun t => args.getD t (.tuple [])) m) : CallWP P G f args m K :=
  CallWP.part (callWP_of hf hb he hn h)

theorem hupd_none {m : Heap} {b c : Nat} {x : ABlk} : hupd m b x c = none ↔ c ≠ b ∧ m c = none := by
  simp only [hupd]
  by_cases h : c = b <;> simp [h]
theorem D.run_pure {c : Prop} {v : AVal} {m : Heap} {K : AVal → Heap → Prop} : (D.pure c v).run m K ↔ c ∧ K v m := Iff.rfl
end Go.Proofs.Ytcdhihoghkkahaa.Ab
