/- Operations, part five: numbers, tests, what is built of parts, and the small ones. -/
import Derived.Test.YtcdhihoghkkahaaAb5
set_option linter.all false
namespace Go.Proofs.Ytcdhihoghkkahaa.Ab
open Go

/-! ### Numbers -/
def abits (op : BinOp) (k : IntKind) (x y : Int) : Int :=
  match op with
  | .and => k.wrap (BitVec.ofInt k.bits x &&& BitVec.ofInt k.bits y).toNat
  | .or => k.wrap (BitVec.ofInt k.bits x ||| BitVec.ofInt k.bits y).toNat
  | .xor => k.wrap (BitVec.ofInt k.bits x ^^^ BitVec.ofInt k.bits y).toNat
  | _ => k.wrap (BitVec.ofInt k.bits x &&& ~~~ BitVec.ofInt k.bits y).toNat
def ashl (k : IntKind) (a b : Int) : Int := k.wrap (a * 2 ^ (min b.toNat k.bits))
def ashr (k : IntKind) (a b : Int) : Int := a.fdiv (2 ^ (min b.toNat k.bits))
def anum (op : BinOp) (k : IntKind) (a : Int) (k' : IntKind) (b : Int) : D :=
  match op with
  | .shl => .pure (0 ≤ b) (.int k (ashl k a b))
  | .shr => .pure (0 ≤ b) (.int k (ashr k a b))
  | .add => .pure (k = k') (.int k (k.wrap (a + b)))
  | .sub => .pure (k = k') (.int k (k.wrap (a - b)))
  | .mul => .pure (k = k') (.int k (k.wrap (a * b)))
  | .quo => .pure (k = k' ∧ b ≠ 0) (.int k (k.wrap (a.tdiv b)))
  | .rem => .pure (k = k' ∧ b ≠ 0) (.int k (a.tmod b))
  | .and => .pure (k = k') (.int k (abits .and k a b))
  | .or => .pure (k = k') (.int k (abits .or k a b))
  | .xor => .pure (k = k') (.int k (abits .xor k a b))
  | .andNot => .pure (k = k') (.int k (abits .andNot k a b))
  | .eql => .pure (k = k') (.bool (a == b))
  | .neq => .pure (k = k') (.bool (a != b))
  | .lss => .pure (k = k') (.bool (decide (a < b)))
  | .leq => .pure (k = k') (.bool (decide (a ≤ b)))
  | .gtr => .pure (k = k') (.bool (decide (a > b)))
  | .geq => .pure (k = k') (.bool (decide (a ≥ b)))
theorem anum_tells {P : Program} {w : World} {m : Heap} (op : BinOp) (t : TypeId) (k k' : IntKind) (a b : Int) (hs : Sat m w) : Tells P (anum op k a k' b) (binOp op t (.int k a) (.int k' b)) w m := by
  cases op
  case shl => exact tells_pure hs (fun h => ⟨.int k (ashl k a b), by have : ¬ b < 0 := by omega
                                                                     simp [binOp, Op.shift, this, ashl], .int _ _⟩)
  case shr => exact tells_pure hs (fun h => ⟨.int k (ashr k a b), by have : ¬ b < 0 := by omega
                                                                     simp [binOp, Op.shift, this, ashr], .int _ _⟩)
  case quo => exact tells_pure hs (fun h => ⟨.int k (k.wrap (a.tdiv b)), by simp [binOp, Op.intDiv, h.1, h.2], .int _ _⟩)
  case rem => exact tells_pure hs (fun h => ⟨.int k (a.tmod b), by simp [binOp, Op.intDiv, h.1, h.2], .int _ _⟩)
  all_goals
    refine tells_pure hs (fun h => ?_)
    subst h
    first
      | exact ⟨.int k _, by simp only [binOp, ne_eq, not_true_eq_false, if_false, Op.intArith, Op.intBits, abits]; rfl, .int _ _⟩
      | exact ⟨.bool _, by simp only [binOp, ne_eq, not_true_eq_false, if_false, Op.intCmp]; rfl, .bool _⟩

def isAggV : AVal → Bool
  | .agg _ => true
  | _ => false
/-- == and != of what are no two numbers. -/
def aeqop (P : Program) (neg : Bool) (t : TypeId) (x y : AVal) : D :=
  match aeq P 8 t x y with
  | some b => .pure (isAggV x = true → P.eqGuardType P.depth t = false) (.bool (if neg then !b else b))
  | none => .fail
def abin (P : Program) (op : BinOp) (t : TypeId) (x y : AVal) : D :=
  match x, y with
  | .int k a, .int k' b => anum op k a k' b
  | x, y => match op with
    | .eql => aeqop P false t x y
    | .neq => aeqop P true t x y
    | _ => .fail

theorem aeq_kinds {P : Program} {d : Nat} {t : TypeId} {x y : AVal} {b : Bool} (h : aeq P (d + 1) t x y = some b) :
    (∃ xs ys, x = .agg xs ∧ y = .agg ys) ∨ (∃ u, aeqFlat u x y = some b) := by
  rw [aeq] at h
  split at h
  · split at h
    · simp at h
    · split at h
      · rename_i xs ys h1 h2
        cases x <;> simp [aggOf] at h1
        cases y <;> simp [aggOf] at h2
        exact .inl ⟨_, _, rfl, rfl⟩
      · simp at h
  · split at h
    · rename_i xs ys a s h1 h2 he
      cases x <;> simp [aggOf] at h1
      cases y <;> simp [aggOf] at h2
      exact .inl ⟨_, _, rfl, rfl⟩
    · simp at h
  · exact .inr ⟨_, h⟩
  · simp at h

theorem abin_tells {P : Program} {w : World} {m : Heap} {op : BinOp} {t : TypeId} {ox oy : Operand} {x y : AVal} {x' y' : Value} (hs : Sat m w) (hx : VRel m w x x') (hy : VRel m w y y') :
    Tells P (abin P op t x y) (do eqGuard op t ox oy x' y'; binOp op t x' y') w m := by
  have hE : ∀ neg, Tells P (aeqop P neg t x y) (do eqGuard (if neg then .neq else .eql) t ox oy x' y'; binOp (if neg then .neq else .eql) t x' y') w m ∨ (∃ k a k' b, x = .int k a ∧ y = .int k' b) := by
    intro neg
    unfold aeqop
    split
    · rename_i b hb
      have hr : (Op.equal t x' y').run P w = .ok b w := aeq_sound _ _ _ _ _ hb _ _ hx hy _ (by simp [Op.maxDepth])
      rcases aeq_kinds hb with ⟨xs, ys, rfl, rfl⟩ | ⟨u, hu⟩
      · left
        refine tells_pure hs (fun hg => ?_)
        have hg := hg rfl
        cases hx; cases hy
        refine ⟨_, ?_, .bool _⟩
        cases neg
        · simp [eqGuard, hg, binOp, hr]
        · simp [eqGuard, hg, binOp, hr]
      · unfold aeqFlat at hu
        split at hu <;> first
          | (simp at hu; done)
          | (exact .inr ⟨_, _, _, _, rfl, rfl⟩)
          | (left
             refine tells_pure hs (fun _ => ?_)
             cases hx; cases hy
             refine ⟨_, ?_, .bool _⟩
             cases neg
             · simp [eqGuard, binOp, hr]
             · simp [eqGuard, binOp, hr])
    · exact .inl tells_fail
  unfold abin
  split
  · rename_i k a k' b
    cases hx; cases hy
    have := anum_tells (P := P) op t k k' a b hs
    intro K hK
    obtain ⟨x, w', v, m', h1, h2⟩ := this K hK
    refine ⟨x, w', v, m', ?_, h2⟩
    have : (eqGuard op t ox oy (.int k a) (.int k' b)).run P w = .ok () w := by cases op <;> simp [eqGuard]
    simp [this, h1]
  · rename_i hne
    split
    · rcases hE false with h | ⟨k, a, k', b, rfl, rfl⟩
      · exact h
      · exact (hne _ _ _ _ rfl rfl).elim
    · rcases hE true with h | ⟨k, a, k', b, rfl, rfl⟩
      · exact h
      · exact (hne _ _ _ _ rfl rfl).elim
    · exact tells_fail

def aun (op : UnOp) (x : AVal) : D :=
  match op, x with
  | .not, .bool b => .pure True (.bool !b)
  | .neg, .int k n => .pure True (.int k (k.wrap (0 - n)))
  | .xor, .int k n => .pure True (.int k (abits .xor k (if k.signed then -1 else k.max) n))
  | _, _ => .fail
theorem aun_tells {P : Program} {w : World} {m : Heap} {op : UnOp} {x : AVal} {x' : Value} (hs : Sat m w) (hx : VRel m w x x') : Tells P (aun op x) (Op.unary op x') w m := by
  unfold aun
  split
  · cases hx; exact tells_pure hs (fun _ => ⟨_, by simp only [Op.unary]; rfl, .bool _⟩)
  · cases hx; exact tells_pure hs (fun _ => ⟨_, by simp only [Op.unary, Op.intArith]; rfl, .int _ _⟩)
  · cases hx; exact tells_pure hs (fun _ => ⟨_, by simp only [Op.unary, Op.intBits]; rfl, .int _ _⟩)
  · exact tells_fail

def aconv (P : Program) (src dst : TypeId) : AVal → D
  | .int _ n => match P.underlying src, P.underlying dst with
    | some _, some (.int k) => .pure True (.int k (k.wrap n))
    | _, _ => .fail
  | _ => .fail
theorem aconv_tells {P : Program} {w : World} {m : Heap} {src dst : TypeId} {x : AVal} {x' : Value} (hs : Sat m w) (hx : VRel m w x x') : Tells P (aconv P src dst x) (convert src dst x') w m := by
  unfold aconv
  split
  · split
    · rename_i d k' h1 h2
      cases hx
      exact tells_pure hs (fun _ => ⟨_, by simp only [convert, Sem.run_bind, run_underlying h1, run_underlying h2, Result.andThen_ok]; rfl, .int _ _⟩)
    · exact tells_fail
  · exact tells_fail

def aextract (i : Nat) : AVal → D
  | .tuple vs => .pure (i < vs.length) (vs.getD i .undef)
  | _ => .fail
theorem aextract_tells {P : Program} {w : World} {m : Heap} {i : Nat} {x : AVal} {x' : Value} (hs : Sat m w) (hx : VRel m w x x') : Tells P (aextract i x) (Instr.extract x' i) w m := by
  unfold aextract
  split
  · refine tells_pure hs (fun hi => ?_)
    cases hx with
    | tuple _ vs h hv =>
      refine ⟨vs.getD i Go.undef, ?_, hv i hi⟩
      have : i < vs.size := by omega
      simp [Instr.extract, this, Array.getD_eq_getD_getElem?]
  · exact tells_fail

def apick (b : Bool) : AVal → AVal → AVal
  | .bool p, .bool q => .bool (if b then p else q)
  | x, y => if b then x else y
theorem apick_rel {m : Heap} {w : World} {b : Bool} {x y : AVal} {x' y' : Value} (hx : VRel m w x x') (hy : VRel m w y y') : VRel m w (apick b x y) (if b then x' else y') := by
  unfold apick
  split
  · cases hx; cases hy; cases b <;> exact .bool _
  · cases b
    · exact hy
    · exact hx

/-! ### What is built of parts -/
def isUndef : AVal → Bool
  | .undef => true
  | _ => false
def afill (places : Nat → Option (Nat × Nat)) (cells : List AVal) : List (Nat × AVal) → Option (List AVal)
  | [] => some cells
  | (i, v) :: rest => match places i with
    | none => none
    | some (off, size) => if isUndef v = false ∧ v.cells.length = size ∧ off + size ≤ cells.length then afill places (splice cells off v.cells) rest else none

theorem foldl_set (off : Nat) : ∀ (l : List Value) (k : Nat) (cells : Array Value), off + k + l.length ≤ cells.size →
    (∀ i, ((l.zipIdx k).foldl (fun cs (p : Value × Nat) => cs.setIfInBounds (off + p.2) p.1) cells).getD i Go.undef =
      if i < off + k then cells.getD i Go.undef else if i < off + k + l.length then l.getD (i - (off + k)) Go.undef else cells.getD i Go.undef) ∧
    ((l.zipIdx k).foldl (fun cs (p : Value × Nat) => cs.setIfInBounds (off + p.2) p.1) cells).size = cells.size
  | [], k, cells, h => by
    refine ⟨fun i => ?_, rfl⟩
    simp only [List.zipIdx_nil, List.foldl_nil, List.length_nil, Nat.add_zero]
    by_cases g : i < off + k <;> simp [g]
  | v :: l, k, cells, h => by
    simp only [List.zipIdx_cons, List.foldl_cons]
    obtain ⟨h1, h2⟩ := foldl_set off l (k + 1) (cells.setIfInBounds (off + k) v) (by simp at h ⊢; omega)
    refine ⟨fun i => ?_, by rw [h2]; simp⟩
    rw [h1 i]
    simp at h
    by_cases g1 : i < off + k
    · have : i < off + (k + 1) := by omega
      have hne : ¬ off + k = i := by omega
      simp [g1, this, Array.getD_eq_getD_getElem?, Array.getElem?_setIfInBounds, hne]
    · by_cases g2 : i = off + k
      · subst g2
        have : off + k < cells.size := by omega
        simp [Array.getD_eq_getD_getElem?, Array.getElem?_setIfInBounds, this]
      · have e1 : ¬ i < off + (k + 1) := by omega
        simp only [g1, e1, if_false, List.length_cons]
        by_cases g3 : i < off + k + (l.length + 1)
        · have : i < off + (k + 1) + l.length := by omega
          simp only [g3, this, if_true]
          rw [show i - (off + k) = (i - (off + (k + 1))) + 1 by omega]
          simp [List.getD_eq_getElem?_getD]
        · have : ¬ i < off + (k + 1) + l.length := by omega
          have hne : ¬ off + k = i := by omega
          simp only [g3, this, if_false]
          simp [Array.getD_eq_getD_getElem?, Array.getElem?_setIfInBounds, hne]

theorem afill_sound {m : Heap} {w : World} (places : Nat → Option (Nat × Nat)) : ∀ (parts : List (Nat × AVal)) (cells : List AVal) (r : List AVal), afill places cells parts = some r →
    ∀ (parts' : List (Nat × Value)) (cells' : Array Value), parts.length = parts'.length → (∀ i, i < parts.length → (parts.getD i (0, .undef)).1 = (parts'.getD i (0, Go.undef)).1 ∧ VRel m w (parts.getD i (0, .undef)).2 (parts'.getD i (0, Go.undef)).2) →
      cells.length = cells'.size → (∀ i, i < cells.length → VRel m w (cells.getD i .undef) (cells'.getD i Go.undef)) →
      ∃ r', Instr.fill places cells' parts' = some r' ∧ r.length = r'.size ∧ ∀ i, i < r.length → VRel m w (r.getD i .undef) (r'.getD i Go.undef)
  | [], cells, r, h, parts', cells', hl, _, hc, hv => by
    simp only [afill, Option.some.injEq] at h; subst h
    cases parts' with
    | nil => exact ⟨cells', rfl, hc, hv⟩
    | cons _ _ => simp at hl
  | (i, v) :: rest, cells, r, h, parts', cells', hl, hp, hc, hv => by
    cases parts' with
    | nil => simp at hl
    | cons q rest' =>
      obtain ⟨i', v'⟩ := q
      obtain ⟨rfl, hvv⟩ : i = i' ∧ VRel m w v v' := by have := hp 0 (by simp); simpa using this
      have hp' : ∀ j, j < rest.length → (rest.getD j (0, .undef)).1 = (rest'.getD j (0, Go.undef)).1 ∧ VRel m w (rest.getD j (0, .undef)).2 (rest'.getD j (0, Go.undef)).2 := by
        intro j hj; have := hp (j + 1) (by simp; omega); simpa [List.getD_eq_getElem?_getD] using this
      simp only [afill] at h
      split at h
      · simp at h
      · rename_i off size hpl
        split at h
        · rename_i hfit
          obtain ⟨hne, hsz, hfit⟩ := hfit
          obtain ⟨k1, k2⟩ := hvv.cells (by rintro rfl; simp [isUndef] at hne)
          have hf := foldl_set off v'.cells.toList 0 cells' (by simp; omega)
          simp only [Nat.add_zero, Array.length_toList] at hf
          have hfit' : off + v.cells.length ≤ cells.length := by omega
          obtain ⟨r', g1, g2, g3⟩ := afill_sound places rest (splice cells off v.cells) r h rest' ((v'.cells.toList.zipIdx 0).foldl (fun cs (p : Value × Nat) => cs.setIfInBounds (off + p.2) p.1) cells') (by simpa using hl) hp'
            (by rw [splice_length hfit', hf.2]; exact hc) (fun j hj => by
              rw [splice_length hfit'] at hj
              rw [splice_getD hfit', hf.1 j, ← k1]
              by_cases e1 : j < off
              · simp only [e1, if_true]; exact hv j hj
              · by_cases e2 : j < off + v.cells.length
                · simp only [e1, e2, if_true, if_false]
                  have := k2 (j - off) (by omega)
                  simpa [Array.getD_eq_getD_getElem?, List.getD_eq_getElem?_getD] using this
                · simp only [e1, e2, if_false]; exact hv j hj)
          refine ⟨r', ?_, g2, g3⟩
          simp only [Instr.fill, hpl]
          have c1 : (decide (v'.cells.size ≠ size) || decide (off + v'.cells.size > cells'.size)) = false := by simp; omega
          rw [if_neg (by simpa using c1)]
          rw [← g1]
          congr 1
          rw [← Array.foldl_toList]
          simp
        · simp at h

/-- Where a struct's fields are: their places and how many cells they have. -/
def pls (P : Program) (t : TypeId) : Option (List (Nat × Nat)) := match P.underlying t with
  | some (.struct fs) => fs.toList.mapM fun f => (tk P f.type).map fun p => (f.offset, p.2)
  | _ => none
theorem run_places {P : Program} {w : World} : ∀ (fs : List Field) (l : List (Nat × Nat)), (fs.mapM fun f => (tk P f.type).map fun p => (f.offset, p.2)) = some l →
    (fs.mapM (fun f => (do pure (f.offset, ← sizeOf f.type) : Sem (Nat × Nat)))).run P w = .ok l w
  | [], l, h => by simp at h; subst h; simp
  | f :: fs, l, h => by
    simp only [List.mapM_cons, Option.bind_eq_bind, Option.bind_eq_some_iff] at h
    obtain ⟨p, hp, l', hl', h⟩ := h
    simp only [Option.map_eq_some_iff] at hp
    obtain ⟨⟨a, n⟩, ht, rfl⟩ := hp
    have ih := run_places (w := w) fs l' hl'
    simp only [Option.pure_def, Option.some.injEq] at h
    subst h
    simp only [List.mapM_cons, Sem.run_bind, run_sizeOf' ht, Result.andThen_ok, Sem.run_pure, ih]

def partsOf (vs : List (Nat × AVal)) : List (Nat × AVal) := vs
def abuild (P : Program) (t : TypeId) (parts : List (Nat × AVal)) : D :=
  match zc P t, pls P t with
  | some z, some l => match afill (fun i => l[i]?) z parts with
    | some r => .pure True (.agg r)
    | none => .fail
  | some z, none => match P.underlying t with
    | some (.array _ e) => match tk P e with
      | some (_, n) => match afill (fun i => some (i * n, n)) z parts with
        | some r => .pure True (.agg r)
        | none => .fail
      | none => .fail
    | _ => .fail
  | _, _ => .fail
theorem abuild_tells {P : Program} {w : World} {m : Heap} {t : TypeId} {parts : List (Nat × AVal)} {parts' : Array (Nat × Value)} (hs : Sat m w) (hl : parts.length = parts'.size)
    (hp : ∀ i, i < parts.length → (parts.getD i (0, .undef)).1 = (parts'.toList.getD i (0, Go.undef)).1 ∧ VRel m w (parts.getD i (0, .undef)).2 (parts'.toList.getD i (0, Go.undef)).2) :
    Tells P (abuild P t parts) (Instr.build t parts') w m := by
  unfold abuild
  split
  · rename_i z l hz hpl
    split
    · rename_i r hr
      refine tells_pure hs (fun _ => ?_)
      obtain ⟨zv, z1, z2, z3⟩ := run_zc hz w
      unfold pls at hpl
      split at hpl
      · rename_i fs hu
        obtain ⟨r', g1, g2, g3⟩ := afill_sound (m := m) (w := w) _ _ _ _ hr parts'.toList zv.cells (by simpa using hl) hp z2 (z3 m w)
        refine ⟨.agg r', ?_, .agg _ _ g2 g3⟩
        have hpr := run_places (w := w) fs.toList l hpl
        have : (fs.mapM (fun f => (do pure (f.offset, ← sizeOf f.type) : Sem (Nat × Nat)))).run P w = .ok l.toArray w := by
          rw [Array.mapM_eq_mapM_toList]; simp only [Sem.run_map, hpr, Result.andThen_ok]
        have hg : (fun i : Nat => l.toArray[i]?) = (fun i : Nat => l[i]?) := by funext i; simp
        simp only [Instr.build, Sem.run_bind, z1, Result.andThen_ok, run_underlying hu, this, hg, g1, Sem.run_pure]
      · simp at hpl
    · exact tells_fail
  · rename_i z hz hpl
    split
    · rename_i len e hu
      split
      · rename_i a n he
        split
        · rename_i r hr
          refine tells_pure hs (fun _ => ?_)
          obtain ⟨zv, z1, z2, z3⟩ := run_zc hz w
          obtain ⟨r', g1, g2, g3⟩ := afill_sound (m := m) (w := w) _ _ _ _ hr parts'.toList zv.cells (by simpa using hl) hp z2 (z3 m w)
          refine ⟨.agg r', ?_, .agg _ _ g2 g3⟩
          simp only [Instr.build, Sem.run_bind, z1, Result.andThen_ok, run_underlying hu, run_sizeOf' he, g1, Sem.run_pure]
        · exact tells_fail
      · exact tells_fail
    · exact tells_fail
  · exact tells_fail

end Go.Proofs.Ytcdhihoghkkahaa.Ab
