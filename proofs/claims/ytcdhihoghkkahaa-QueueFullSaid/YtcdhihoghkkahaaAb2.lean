/- What each operation comes to in the abstract view, and that the model's own operation comes to the same: values, and what is read. -/
import Derived.Test.YtcdhihoghkkahaaAb1
import Derived.Laws.Sem
import Derived.Laws.World
import Derived.Laws.Cells
import Derived.Laws.Entries
set_option linter.all false
namespace Go.Proofs.Ytcdhihoghkkahaa.Ab
open Go

/-- What an operation does. -/
inductive D where
  | fail
  | pure (c : Prop) (v : AVal)
  | read (p : Nat) (c : ABlk → Prop) (f : ABlk → AVal)
  | alloc (c : Prop) (x : ABlk) (mk : Nat → AVal)
  | write (p : Nat) (c : ABlk → Prop) (f : ABlk → ABlk) (v : AVal)
  | eff (T : Heap → (AVal → Heap → Prop) → Prop)

/-- The model's operation ends in a value that is told, in a world that goes with the heap. -/
def Ends (P : Program) (s : Sem Value) (w : World) (m : Heap) (K : AVal → Heap → Prop) : Prop :=
  ∃ x w' v m', s.run P w = .ok x w' ∧ K v m' ∧ VRel m' w' v x ∧ Sat m' w' ∧ Ext m w m' w'
theorem Ends.here {P : Program} {s : Sem Value} {w : World} {m : Heap} {K : AVal → Heap → Prop} {x : Value} {v : AVal} (hs : Sat m w) (h : s.run P w = .ok x w) (hK : K v m) (hv : VRel m w v x) : Ends P s w m K :=
  ⟨x, w, v, m, h, hK, hv, hs, Ext.refl _ _⟩

/-! ### Values -/
theorem VRel.cells {m : Heap} {w : World} {v : AVal} {x : Value} (h : VRel m w v x) (hn : v ≠ .undef) :
    v.cells.length = x.cells.size ∧ ∀ i, i < v.cells.length → VRel m w (v.cells.getD i .undef) (x.cells.getD i Go.undef) := by
  have one : ∀ (v : AVal) (x : Value), v.cells = [v] → x.cells = #[x] → VRel m w v x →
      v.cells.length = x.cells.size ∧ ∀ i, i < v.cells.length → VRel m w (v.cells.getD i .undef) (x.cells.getD i Go.undef) := by
    intro v x h1 h2 h
    rw [h1, h2]
    refine ⟨rfl, fun i hi => ?_⟩
    have : i = 0 := by simp at hi; exact hi
    subst this; simpa using h
  cases h with
  | undef v => exact absurd rfl hn
  | agg cs vs h1 h2 => exact ⟨h1, h2⟩
  | _ => refine one _ _ rfl rfl ?_; constructor <;> assumption

/-- A value that lies in one cell. -/
def AVal.flat : AVal → Bool
  | .undef | .agg _ | .tuple _ => false
  | _ => true
theorem VRel.oneCell {m : Heap} {w : World} {v : AVal} {x : Value} (h : VRel m w v x) (hf : v.flat = true) : x.oneCell' = true := by
  cases h <;> first | rfl | (simp [AVal.flat] at hf)

def isAggD : TypeDesc → Bool
  | .struct _ | .array _ _ => true
  | _ => false
/-- Is a type's value an aggregate, and how many cells has it? -/
def tk (P : Program) (t : TypeId) : Option (Bool × Nat) :=
  match P.underlying t, P.info? t with
  | some d, some i => some (isAggD d, i.size)
  | _, _ => none
theorem run_isAgg {P : Program} {t : TypeId} {a : Bool} {n : Nat} (h : tk P t = some (a, n)) (w : World) : (isAgg t).run P w = .ok a w := by
  unfold tk at h
  split at h
  · rename_i d i hd hi
    simp only [Option.some.injEq, Prod.mk.injEq] at h
    unfold isAgg underlying
    simp only [Sem.run_bind, run_program, Result.andThen_ok, hd]
    simp only [Sem.run_pure, Result.andThen_ok]
    rw [← h.1]
    cases d <;> simp [isAggD]
  · simp at h
theorem run_sizeOf' {P : Program} {t : TypeId} {a : Bool} {n : Nat} (h : tk P t = some (a, n)) (w : World) : (sizeOf t).run P w = .ok n w := by
  unfold tk at h
  split at h
  · rename_i d i hd hi
    simp only [Option.some.injEq, Prod.mk.injEq] at h
    unfold sizeOf typeInfo
    simp [Sem.run_bind, hi, h.2]
  · simp at h

/-! ### Reading cells -/
def rcell (a : Bool) (n : Nat) (cs : List AVal) (o : Nat) : AVal := if a then .agg ((cs.drop o).take n) else cs.getD o .undef
def rok (a : Bool) (n : Nat) (cs : List AVal) (o : Nat) : Prop := if a then o + n ≤ cs.length else o < cs.length
theorem addr_add (b o j : Nat) : (⟨b, o, none⟩ : Addr).add j = ⟨b, o + j, none⟩ := by
  unfold Addr.add; split <;> simp_all
theorem run_loadCells' {P : Program} {m : Heap} {w : World} (b off o n : Nat) (cs : List AVal) (hok : o + n ≤ cs.length)
    (hc : ∀ i, i < cs.length → ∃ x, w.cell? ⟨b, off + i, none⟩ = some x ∧ VRel m w (cs.getD i .undef) x) :
    ∃ xs : Array Value, (loadCells ⟨b, off + o, none⟩ n).run P w = .ok xs w ∧ xs.size = n ∧ ∀ i, i < n → VRel m w (((cs.drop o).take n).getD i .undef) (xs.getD i Go.undef) := by
  have hx : ∀ j, j < n → ∃ x, w.cell? ((⟨b, off + o, none⟩ : Addr).add j) = some x ∧ VRel m w (cs.getD (o + j) .undef) x := by
    intro j hj; rw [addr_add, Nat.add_assoc]; exact hc (o + j) (by omega)
  let f : Nat → Value := fun j => if h : j < n then (hx j h).choose else Go.undef
  have hf : ∀ j, j < n → w.cell? ((⟨b, off + o, none⟩ : Addr).add j) = some (f j) := by
    intro j hj; simp only [f, hj, dif_pos]; exact (hx j hj).choose_spec.1
  have hr := run_loadCells (P := P) (w := w) ⟨b, off + o, none⟩ n f hf
  refine ⟨_, hr, by simp, fun i hi => ?_⟩
  have := (hx i hi).choose_spec.2
  have e1 : ((cs.drop o).take n).getD i .undef = cs.getD (o + i) .undef := by
    simp [List.getD_eq_getElem?_getD, List.getElem?_take, hi, List.getElem?_drop]
  rw [e1]
  have e3 : f i = (hx i hi).choose := by simp only [f, hi, dif_pos]
  simp [Array.getD_eq_getD_getElem?, hi]
  rw [e3]; simpa using this
theorem run_loadVar {P : Program} {m : Heap} {w : World} {t : TypeId} {a : Bool} {n : Nat} (ht : tk P t = some (a, n)) (b off o : Nat) (cs : List AVal) (hok : rok a n cs o)
    (hc : ∀ i, i < cs.length → ∃ x, w.cell? ⟨b, off + i, none⟩ = some x ∧ VRel m w (cs.getD i .undef) x) :
    ∃ x, (loadVar t ⟨b, off + o, none⟩).run P w = .ok x w ∧ VRel m w (rcell a n cs o) x := by
  unfold loadVar
  simp only [Sem.run_bind, run_isAgg ht, Result.andThen_ok]
  cases a with
  | false =>
    simp only [rok, Bool.false_eq_true, if_false] at hok
    obtain ⟨x, h1, h2⟩ := hc o hok
    refine ⟨x, ?_, ?_⟩
    · simp [h1]
    · simpa [rcell] using h2
  | true =>
    simp only [rok, if_true] at hok
    obtain ⟨xs, h1, h2, h3⟩ := run_loadCells' (P := P) (m := m) b off o n cs hok hc
    refine ⟨.agg xs, ?_, ?_⟩
    · simp only [if_true, Sem.run_bind, run_sizeOf' ht, Result.andThen_ok, h1]; rfl
    · refine .agg _ _ (by simp [h2]; omega) (fun i hi => ?_)
      exact h3 i (by simp at hi; omega)

theorem cells_at {m : Heap} {w : World} {b : Nat} {cs : List AVal} {N : Nat} (h : BRel m w (.cells cs N) w.heap[b]?) :
    ∀ i, i < cs.length → ∃ x, w.cell? ⟨b, 0 + i, none⟩ = some x ∧ VRel m w (cs.getD i .undef) x := by
  obtain ⟨arr, ty, h1, h2, h3, h4⟩ := h
  intro i hi
  refine ⟨arr.getD i Go.undef, ?_, h4 i hi⟩
  have : i < arr.size := by omega
  simp [World.cell?, h1, Array.getD_eq_getD_getElem?, this]

def aload (P : Program) (t : TypeId) : AVal → D
  | .ptr b o => match tk P t with
    | some (a, n) => .read b (fun x => match x with | .cells cs _ => rok a n cs o | _ => False) (fun x => match x with | .cells cs _ => rcell a n cs o | _ => .undef)
    | none => .fail
  | .rptr cs o => match tk P t with
    | some (a, n) => .pure (rok a n cs o) (rcell a n cs o)
    | none => .fail
  | _ => .fail

/-- What D says, of the operations that are no calls. -/
def D.run : D → Heap → (AVal → Heap → Prop) → Prop
  | .fail, _, _ => False
  | .pure c v, m, K => c ∧ K v m
  | .read p c f, m, K => match m p with
    | some x => c x ∧ K (f x) m
    | none => False
  | .alloc c x mk, m, K => c ∧ ∀ b, m b = none → K (mk b) (hupd m b x)
  | .write p c f v, m, K => match m p with
    | some x => c x ∧ K v (hupd m p (f x))
    | none => False
  | .eff T, m, K => T m K

/-- D tells what s does. -/
def Tells (P : Program) (d : D) (s : Sem Value) (w : World) (m : Heap) : Prop := ∀ K, d.run m K → Ends P s w m K
theorem tells_fail {P : Program} {s : Sem Value} {w : World} {m : Heap} : Tells P .fail s w m := fun _ h => h.elim
theorem tells_pure {P : Program} {s : Sem Value} {w : World} {m : Heap} {c : Prop} {v : AVal} (hs : Sat m w) (h : c → ∃ x, s.run P w = .ok x w ∧ VRel m w v x) : Tells P (.pure c v) s w m := by
  rintro K ⟨hc, hK⟩
  obtain ⟨x, h1, h2⟩ := h hc
  exact .here hs h1 hK h2
theorem tells_read {P : Program} {s : Sem Value} {w : World} {m : Heap} {p : Nat} {c : ABlk → Prop} {f : ABlk → AVal} (hs : Sat m w)
    (h : ∀ y, m p = some y → c y → ∃ x, s.run P w = .ok x w ∧ VRel m w (f y) x) : Tells P (.read p c f) s w m := by
  intro K hK
  simp only [D.run] at hK
  split at hK
  · rename_i y hy
    obtain ⟨x, h1, h2⟩ := h y hy hK.1
    exact .here hs h1 hK.2 h2
  · exact hK.elim

theorem aload_tells {P : Program} {w : World} {m : Heap} {t : TypeId} {v : AVal} {x : Value} (hs : Sat m w) (hv : VRel m w v x) : Tells P (aload P t v) (Instr.loadAt t x) w m := by
  unfold aload
  split
  · rename_i b o
    split
    · rename_i a n ht
      refine tells_read hs (fun y hy hc => ?_)
      cases y with
      | cells cs N =>
        obtain ⟨x', h1, h2⟩ := run_loadVar (m := m) ht b 0 o cs hc (cells_at (hs b _ hy))
        cases hv
        refine ⟨x', ?_, h2⟩
        simp only [Nat.zero_add] at h1
        simp [Instr.loadAt, Instr.sureAddr, h1]
      | map es => exact hc.elim
      | obj o => exact hc.elim
      | loop => exact hc.elim
    · exact tells_fail
  · rename_i cs o
    split
    · rename_i a n ht
      refine tells_pure hs (fun hc => ?_)
      cases hv with
      | rptr cs o b off f hm hb hc' hv' =>
        obtain ⟨x', h1, h2⟩ := run_loadVar (m := m) ht b off o cs hc (fun i hi => ⟨f i, hc' i hi, hv' i hi⟩)
        exact ⟨x', by simp [Instr.loadAt, Instr.sureAddr, h1], h2⟩
    · exact tells_fail
  · exact tells_fail

end Go.Proofs.Ytcdhihoghkkahaa.Ab
