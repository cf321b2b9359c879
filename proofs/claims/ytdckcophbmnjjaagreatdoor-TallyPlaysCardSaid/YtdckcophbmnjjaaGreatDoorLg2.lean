/- Operations, part four: numbers, tests, equality, what is built of parts. Operations, part five: numbers, tests, what is built of parts, and the small ones. Operations, part six: len, min, max, make, a slice of parts, append, copy. Operations, part seven: append and copy. Operations, part eight: copy, clear, cap, the test against nil; what an operation comes to. Operations, part nine: maps whose keys are whole numbers: one is made, looked into, laid into, and ranged over. -/
import Derived.Test.YtdckcophbmnjjaaGreatDoorLg1
import Derived.Laws.StructEq
import Derived.MapKept
import Derived.RangeFuncRecord
import Derived.Laws.IdiomRangeMap
set_option linter.all false
namespace Go.Proofs.YtdckcophbmnjjaaGreatDoor.Ab
open Go

/-! ### Equality -/
/-- Are two values that are no aggregates equal? none: not told here. -/
def aeqFlat : TypeDesc → AVal → AVal → Option Bool
  | .bool, .bool a, .bool b => some (a == b)
  | .int _, .int k a, .int k' b => if k = k' then some (a == b) else none
  | .pointer _, .nilp, .nilp => some true
  | .pointer _, .nilp, .ptr _ _ => some false
  | .pointer _, .nilp, .rptr _ _ => some false
  | .pointer _, .ptr _ _, .nilp => some false
  | .pointer _, .rptr _ _, .nilp => some false
  | .slice _, .nils, .nils => some true
  | .slice _, .nils, .slice _ _ _ _ => some false
  | .slice _, .slice _ _ _ _, .nils => some false
  | .slice _, .list _ (_ :: _), .nils => some false
  | .map _ _, .nilmap, .nilmap => some true
  | .map _ _, .nilmap, .map _ => some false
  | .map _ _, .map _, .nilmap => some false
  | _, _, _ => none
def aggOf : AVal → Option (List AVal)
  | .agg cs => some cs
  | _ => none
def rokB (a : Bool) (n : Nat) (cs : List AVal) (o : Nat) : Bool := if a then o + n ≤ cs.length else o < cs.length
mutual
/-- Are two values of a type equal? none: not told here. -/
def aeq (P : Program) : Nat → TypeId → AVal → AVal → Option Bool
  | 0, _, _, _ => none
  | d + 1, t, x, y => match P.underlying t with
    | some (.struct fs) => if P.stoodInHeld t then none else
      match aggOf x, aggOf y with
      | some xs, some ys => aeqFs P d xs ys fs.toList
      | _, _ => none
    | some (.array n e) =>
      match aggOf x, aggOf y, tk P e with
      | some xs, some ys, some (a, s) => aeqEs P d e a s xs ys n 0
      | _, _, _ => none
    | some u => aeqFlat u x y
    | none => none
def aeqFs (P : Program) : Nat → List AVal → List AVal → List Field → Option Bool
  | _, _, _, [] => some true
  | d, xs, ys, f :: fs => if f.name ≠ "_" then
      match tk P f.type with
      | some (a, n) => if rokB a n xs f.offset && rokB a n ys f.offset then
          match aeq P d f.type (rcell a n xs f.offset) (rcell a n ys f.offset), aeqFs P d xs ys fs with
          | some b, some c => some (b && c)
          | _, _ => none
        else none
      | none => none
    else aeqFs P d xs ys fs
def aeqEs (P : Program) : Nat → TypeId → Bool → Nat → List AVal → List AVal → Nat → Nat → Option Bool
  | _, _, _, _, _, _, 0, _ => some true
  | d, e, a, s, xs, ys, n + 1, i => if rokB a s xs (i * s) && rokB a s ys (i * s) then
      match aeq P d e (rcell a s xs (i * s)) (rcell a s ys (i * s)), aeqEs P d e a s xs ys n (i + 1) with
      | some b, some c => some (b && c)
      | _, _ => none
    else none
end

theorem rokB_rok {a : Bool} {n : Nat} {cs : List AVal} {o : Nat} (h : rokB a n cs o = true) : rok a n cs o := by
  unfold rokB at h; unfold rok; cases a <;> simpa using h

def eqElems (e : TypeId) (D s : Nat) (xs ys : Array Value) : Nat → Nat → Sem Bool
  | 0, _ => pure true
  | n + 1, i => do
    let a ← part e xs (i * s)
    let b ← part e ys (i * s)
    let r ← Op.equalIn D e a b
    if (!r) = true then pure false else eqElems e D s xs ys n (i + 1)
theorem run_equalIn_array {P : Program} (w : World) (D : Nat) (t e : TypeId) (len : Nat) (xs ys : Array Value) (ht : P.underlying t = some (.array len e)) {a : Bool} {s : Nat} (he : tk P e = some (a, s)) :
    (Op.equalIn (D + 1) t (.agg xs) (.agg ys)).run P w = (eqElems e D s xs ys len 0).run P w := by
  simp only [Op.equalIn, Sem.run_bind, run_underlying ht, Result.andThen_ok, run_sizeOf' he]
  rw [Std.Legacy.Range.forIn_eq_forIn_range']
  simp only [Std.Legacy.Range.size, Nat.sub_zero, Nat.add_sub_cancel, Nat.div_one]
  clear ht
  generalize 0 = i
  induction len generalizing i w with
  | zero => simp [eqElems]
  | succ n ih =>
    simp only [List.range'_succ, List.forIn_cons, eqElems, Sem.run_bind, Sem.run_ite]
    generalize (part e xs (i * s)).run P w = r1
    cases r1 with
    | ok a w1 =>
      simp only [Result.andThen_ok]
      generalize (part e ys (i * s)).run P w1 = r2
      cases r2 with
      | ok b w2 =>
        simp only [Result.andThen_ok]
        generalize (Op.equalIn D e a b).run P w2 = r3
        cases r3 with
        | ok r w3 =>
          cases r
          · simp only [Result.andThen_ok, Bool.not_false, if_true, Sem.run_pure]
          · simp only [Result.andThen_ok, Bool.not_true, Bool.false_eq_true, if_false, Sem.run_pure]
            exact ih w3 (i + 1)
        | halt x w3 => simp [Result.andThen]
      | halt x w2 => simp [Result.andThen]
    | halt x w1 => simp [Result.andThen]

theorem aeq_sound {P : Program} {m : Heap} {w : World} : ∀ (d : Nat) (t : TypeId) (x y : AVal) (b : Bool), aeq P d t x y = some b → ∀ (x' y' : Value), VRel m w x x' → VRel m w y y' → ∀ D, d ≤ D → (Op.equalIn D t x' y').run P w = .ok b w := by
  intro d
  induction d with
  | zero => intro t x y b h; simp [aeq] at h
  | succ d ih =>
    have hF : ∀ (fs : List Field) (xs ys : List AVal) (b : Bool), aeqFs P d xs ys fs = some b → ∀ (xs' ys' : Array Value), xs.length = xs'.size → ys.length = ys'.size →
        (∀ i, i < xs.length → VRel m w (xs.getD i .undef) (xs'.getD i Go.undef)) → (∀ i, i < ys.length → VRel m w (ys.getD i .undef) (ys'.getD i Go.undef)) → ∀ D, d ≤ D → (Op.eqFields D xs' ys' fs).run P w = .ok b w := by
      intro fs
      induction fs with
      | nil => intro xs ys b h xs' ys' _ _ _ _ D _; simp [aeqFs] at h; simp [Op.eqFields, h]
      | cons f fs ihf =>
        intro xs ys b h xs' ys' l1 l2 v1 v2 D hD
        simp only [aeqFs] at h
        simp only [Op.eqFields, Sem.run_ite, Sem.run_bind]
        split at h
        · rename_i hn
          split at h
          · rename_i a n ht
            split at h
            · rename_i hr
              simp only [Bool.and_eq_true] at hr
              split at h
              · rename_i b1 c1 h1 h2
                obtain ⟨p, k1, k2⟩ := run_part (P := P) ht f.offset xs xs' l1 v1 (rokB_rok hr.1)
                obtain ⟨q, k3, k4⟩ := run_part (P := P) ht f.offset ys ys' l2 v2 (rokB_rok hr.2)
                have e := ih _ _ _ _ h1 _ _ k2 k4 D hD
                have e2 := ihf xs ys c1 h2 xs' ys' l1 l2 v1 v2 D hD
                simp only [Option.some.injEq] at h
                subst h
                rw [if_pos hn]
                simp only [k1, k3, Result.andThen_ok, e]
                cases b1 <;> simp [e2]
              · simp at h
            · simp at h
          · simp at h
        · rename_i hn
          rw [if_neg hn]
          exact ihf xs ys b h xs' ys' l1 l2 v1 v2 D hD
    have hE : ∀ (e : TypeId) (a : Bool) (s : Nat), tk P e = some (a, s) → ∀ (n i : Nat) (xs ys : List AVal) (b : Bool), aeqEs P d e a s xs ys n i = some b → ∀ (xs' ys' : Array Value), xs.length = xs'.size → ys.length = ys'.size →
        (∀ i, i < xs.length → VRel m w (xs.getD i .undef) (xs'.getD i Go.undef)) → (∀ i, i < ys.length → VRel m w (ys.getD i .undef) (ys'.getD i Go.undef)) → ∀ D, d ≤ D → (eqElems e D s xs' ys' n i).run P w = .ok b w := by
      intro e a s ht n
      induction n with
      | zero => intro i xs ys b h xs' ys' _ _ _ _ D _; simp [aeqEs] at h; simp [eqElems, h]
      | succ n ihn =>
        intro i xs ys b h xs' ys' l1 l2 v1 v2 D hD
        simp only [aeqEs] at h
        split at h
        · rename_i hr
          simp only [Bool.and_eq_true] at hr
          split at h
          · rename_i b1 c1 h1 h2
            obtain ⟨p, k1, k2⟩ := run_part (P := P) ht (i * s) xs xs' l1 v1 (rokB_rok hr.1)
            obtain ⟨q, k3, k4⟩ := run_part (P := P) ht (i * s) ys ys' l2 v2 (rokB_rok hr.2)
            have e := ih _ _ _ _ h1 _ _ k2 k4 D hD
            have e2 := ihn (i + 1) xs ys c1 h2 xs' ys' l1 l2 v1 v2 D hD
            simp only [Option.some.injEq] at h
            subst h
            simp only [eqElems, Sem.run_bind, k1, k3, Result.andThen_ok, e, Sem.run_ite]
            cases b1 <;> simp [e2]
          · simp at h
        · simp at h
    intro t x y b h x' y' hx hy D hD
    obtain ⟨D, rfl⟩ : ∃ D', D = D' + 1 := ⟨D - 1, by omega⟩
    rw [aeq] at h
    split at h
    · rename_i fs hu
      split at h
      · simp at h
      · rename_i hst
        split at h
        · rename_i xs ys h1 h2
          cases x <;> simp [aggOf] at h1
          cases y <;> simp [aggOf] at h2
          subst h1 h2
          cases hx with
          | agg _ xs' l1 v1 =>
            cases hy with
            | agg _ ys' l2 v2 =>
              have hfo : P.fieldsOf t = fs := by simp [Program.fieldsOf, hu]
              rw [run_equalIn_struct w D t xs' ys' (by rw [hfo]; exact hu) (by simpa using hst), hfo]
              exact hF _ _ _ _ h _ _ l1 l2 v1 v2 D (by omega)
        · simp at h
    · rename_i n e hu
      split at h
      · rename_i xs ys a s h1 h2 he
        cases x <;> simp [aggOf] at h1
        cases y <;> simp [aggOf] at h2
        subst h1 h2
        cases hx with
        | agg _ xs' l1 v1 =>
          cases hy with
          | agg _ ys' l2 v2 =>
            rw [run_equalIn_array w D t e n xs' ys' hu he]
            exact hE e a s he n 0 _ _ _ h _ _ l1 l2 v1 v2 D (by omega)
      · simp at h
    · rename_i u hn1 hn2 hu
      unfold aeqFlat at h
      split at h <;> first
        | (simp at h; done)
        | (cases hx; cases hy; simp only [Option.some.injEq] at h; subst h; simp [Op.equalIn, run_underlying hu]; done)
        | (split at h
           · rename_i hk
             cases hx; cases hy; simp only [Option.some.injEq] at h; subst h; simp [Op.equalIn, run_underlying hu, hk]
           · simp at h)
    · simp at h

end Go.Proofs.YtdckcophbmnjjaaGreatDoor.Ab
namespace Go.Proofs.YtdckcophbmnjjaaGreatDoor.Ab
open Go

/-! ### Numbers -/
def abits (op : BinOp) (k : IntKind) (x y : Int) : Int :=
  match op with
  | .and => k.wrap (BitVec.ofInt k.bits x &&& BitVec.ofInt k.bits y).toNat
  | .or => k.wrap (BitVec.ofInt k.bits x ||| BitVec.ofInt k.bits y).toNat
  | .xor => k.wrap (BitVec.ofInt k.bits x ^^^ BitVec.ofInt k.bits y).toNat
  | _ => k.wrap (BitVec.ofInt k.bits x &&& ~~~ BitVec.ofInt k.bits y).toNat
def ashl (k : IntKind) (a b : Int) : Int := k.wrap (a * 2 ^ (min b.toNat k.bits))
def ashr (k : IntKind) (a b : Int) : Int := a.fdiv (2 ^ (min b.toNat k.bits))
def anum (op : BinOp) (k : IntKind) (a : Int) (k' : IntKind) (b : Int) : D :=
  match op with
  | .shl => .pure (0 ≤ b) (.int k (ashl k a b))
  | .shr => .pure (0 ≤ b) (.int k (ashr k a b))
  | .add => .pure (k = k') (.int k (k.wrap (a + b)))
  | .sub => .pure (k = k') (.int k (k.wrap (a - b)))
  | .mul => .pure (k = k') (.int k (k.wrap (a * b)))
  | .quo => .pure (k = k' ∧ b ≠ 0) (.int k (k.wrap (a.tdiv b)))
  | .rem => .pure (k = k' ∧ b ≠ 0) (.int k (a.tmod b))
  | .and => .pure (k = k') (.int k (abits .and k a b))
  | .or => .pure (k = k') (.int k (abits .or k a b))
  | .xor => .pure (k = k') (.int k (abits .xor k a b))
  | .andNot => .pure (k = k') (.int k (abits .andNot k a b))
  | .eql => .pure (k = k') (.bool (a == b))
  | .neq => .pure (k = k') (.bool (a != b))
  | .lss => .pure (k = k') (.bool (decide (a < b)))
  | .leq => .pure (k = k') (.bool (decide (a ≤ b)))
  | .gtr => .pure (k = k') (.bool (decide (a > b)))
  | .geq => .pure (k = k') (.bool (decide (a ≥ b)))
theorem anum_tells {P : Program} {w : World} {m : Heap} (op : BinOp) (t : TypeId) (k k' : IntKind) (a b : Int) (hs : Sat m w) : Tells P (anum op k a k' b) (binOp op t (.int k a) (.int k' b)) w m := by
  cases op
  case shl => exact tells_pure hs (fun h => ⟨.int k (ashl k a b), by have : ¬ b < 0 := by omega
                                                                     simp [binOp, Op.shift, this, ashl], .int _ _⟩)
  case shr => exact tells_pure hs (fun h => ⟨.int k (ashr k a b), by have : ¬ b < 0 := by omega
                                                                     simp [binOp, Op.shift, this, ashr], .int _ _⟩)
  case quo => exact tells_pure hs (fun h => ⟨.int k (k.wrap (a.tdiv b)), by simp [binOp, Op.intDiv, h.1, h.2], .int _ _⟩)
  case rem => exact tells_pure hs (fun h => ⟨.int k (a.tmod b), by simp [binOp, Op.intDiv, h.1, h.2], .int _ _⟩)
  all_goals
    refine tells_pure hs (fun h => ?_)
    subst h
    first
      | exact ⟨.int k _, by simp only [binOp, ne_eq, not_true_eq_false, if_false, Op.intArith, Op.intBits, abits]; rfl, .int _ _⟩
      | exact ⟨.bool _, by simp only [binOp, ne_eq, not_true_eq_false, if_false, Op.intCmp]; rfl, .bool _⟩

def isAggV : AVal → Bool
  | .agg _ => true
  | _ => false
/-- An empty row that was handed in: nobody knows whether it is nil. -/
def aeqAny (P : Program) (t : TypeId) : AVal → AVal → D
  | .list _ [], .nils => match P.underlying t with
    | some (.slice _) => .eff fun m K => ∀ b, K (.bool b) m
    | _ => .fail
  | _, _ => .fail
/-- == and != of what are no two numbers. -/
def aeqop (P : Program) (neg : Bool) (t : TypeId) (x y : AVal) : D :=
  match aeq P 8 t x y with
  | some b => .pure (isAggV x = true → P.eqGuardType P.depth t = false) (.bool (if neg then !b else b))
  | none => aeqAny P t x y
def abin (P : Program) (op : BinOp) (t : TypeId) (x y : AVal) : D :=
  match x, y with
  | .int k a, .int k' b => anum op k a k' b
  | x, y => match op with
    | .eql => aeqop P false t x y
    | .neq => aeqop P true t x y
    | _ => .fail

theorem aeq_kinds {P : Program} {d : Nat} {t : TypeId} {x y : AVal} {b : Bool} (h : aeq P (d + 1) t x y = some b) :
    (∃ xs ys, x = .agg xs ∧ y = .agg ys) ∨ (∃ u, aeqFlat u x y = some b) := by
  rw [aeq] at h
  split at h
  · split at h
    · simp at h
    · split at h
      · rename_i xs ys h1 h2
        cases x <;> simp [aggOf] at h1
        cases y <;> simp [aggOf] at h2
        exact .inl ⟨_, _, rfl, rfl⟩
      · simp at h
  · split at h
    · rename_i xs ys a s h1 h2 he
      cases x <;> simp [aggOf] at h1
      cases y <;> simp [aggOf] at h2
      exact .inl ⟨_, _, rfl, rfl⟩
    · simp at h
  · exact .inr ⟨_, h⟩
  · simp at h

theorem abin_tells {P : Program} {w : World} {m : Heap} {op : BinOp} {t : TypeId} {ox oy : Operand} {x y : AVal} {x' y' : Value} (hs : Sat m w) (hx : VRel m w x x') (hy : VRel m w y y') :
    Tells P (abin P op t x y) (do eqGuard op t ox oy x' y'; binOp op t x' y') w m := by
  have hE : ∀ neg, Tells P (aeqop P neg t x y) (do eqGuard (if neg then .neq else .eql) t ox oy x' y'; binOp (if neg then .neq else .eql) t x' y') w m ∨ (∃ k a k' b, x = .int k a ∧ y = .int k' b) := by
    intro neg
    unfold aeqop
    split
    · rename_i b hb
      have hr : (Op.equal t x' y').run P w = .ok b w := aeq_sound _ _ _ _ _ hb _ _ hx hy _ (by simp [Op.maxDepth])
      rcases aeq_kinds hb with ⟨xs, ys, rfl, rfl⟩ | ⟨u, hu⟩
      · left
        refine tells_pure hs (fun hg => ?_)
        have hg := hg rfl
        cases hx; cases hy
        refine ⟨_, ?_, .bool _⟩
        cases neg
        · simp [eqGuard, hg, binOp, hr]
        · simp [eqGuard, hg, binOp, hr]
      · unfold aeqFlat at hu
        split at hu <;> first
          | (simp at hu; done)
          | (exact .inr ⟨_, _, _, _, rfl, rfl⟩)
          | (left
             refine tells_pure hs (fun _ => ?_)
             cases hx; cases hy
             try simp only [List.length_cons] at hr ⊢
             refine ⟨_, ?_, .bool _⟩
             cases neg
             · simp [eqGuard, binOp, hr]
             · simp [eqGuard, binOp, hr])
    · left
      unfold aeqAny
      split
      · split
        · rename_i e hu
          intro K hK
          have hK : ∀ b, K (.bool b) m := hK
          cases hy
          obtain ⟨b, hb⟩ : ∃ b, (Op.equal t x' (.slice none 0 0)).run P w = .ok b w := by
            obtain ⟨D, hD⟩ : ∃ D, Op.maxDepth = D + 1 := ⟨_, rfl⟩
            have key : ∀ a n c, ∃ b, (Op.equalIn (D + 1) t (.slice a n c) (.slice none 0 0)).run P w = .ok b w := fun a n c => by
              cases a <;> exact ⟨_, by simp [Op.equalIn, run_underlying hu]; rfl⟩
            show ∃ b, (Op.equalIn Op.maxDepth t x' (.slice none 0 0)).run P w = .ok b w
            rw [hD]
            cases hx <;> exact key _ _ _
          have hx' : ∃ a n c, x' = .slice a n c := by cases hx <;> exact ⟨_, _, _, rfl⟩
          obtain ⟨a, n, c, rfl⟩ := hx'
          cases neg
          · exact .here hs (by simp [eqGuard, binOp, hb]) (hK b) (.bool b)
          · exact .here hs (by simp [eqGuard, binOp, hb]) (hK !b) (.bool !b)
        · exact tells_fail
      · exact tells_fail
  unfold abin
  split
  · rename_i k a k' b
    cases hx; cases hy
    have := anum_tells (P := P) op t k k' a b hs
    intro K hK
    obtain ⟨x, w', v, m', h1, h2⟩ := this K hK
    refine ⟨x, w', v, m', ?_, h2⟩
    have : (eqGuard op t ox oy (.int k a) (.int k' b)).run P w = .ok () w := by cases op <;> simp [eqGuard]
    simp [this, h1]
  · rename_i hne
    split
    · rcases hE false with h | ⟨k, a, k', b, rfl, rfl⟩
      · exact h
      · exact (hne _ _ _ _ rfl rfl).elim
    · rcases hE true with h | ⟨k, a, k', b, rfl, rfl⟩
      · exact h
      · exact (hne _ _ _ _ rfl rfl).elim
    · exact tells_fail

def aun (op : UnOp) (x : AVal) : D :=
  match op, x with
  | .not, .bool b => .pure True (.bool !b)
  | .neg, .int k n => .pure True (.int k (k.wrap (0 - n)))
  | .xor, .int k n => .pure True (.int k (abits .xor k (if k.signed then -1 else k.max) n))
  | _, _ => .fail
theorem aun_tells {P : Program} {w : World} {m : Heap} {op : UnOp} {x : AVal} {x' : Value} (hs : Sat m w) (hx : VRel m w x x') : Tells P (aun op x) (Op.unary op x') w m := by
  unfold aun
  split
  · cases hx; exact tells_pure hs (fun _ => ⟨_, by simp only [Op.unary]; rfl, .bool _⟩)
  · cases hx; exact tells_pure hs (fun _ => ⟨_, by simp only [Op.unary, Op.intArith]; rfl, .int _ _⟩)
  · cases hx; exact tells_pure hs (fun _ => ⟨_, by simp only [Op.unary, Op.intBits]; rfl, .int _ _⟩)
  · exact tells_fail

def aconv (P : Program) (src dst : TypeId) : AVal → D
  | .int _ n => match P.underlying src, P.underlying dst with
    | some _, some (.int k) => .pure True (.int k (k.wrap n))
    | _, _ => .fail
  | _ => .fail
theorem aconv_tells {P : Program} {w : World} {m : Heap} {src dst : TypeId} {x : AVal} {x' : Value} (hs : Sat m w) (hx : VRel m w x x') : Tells P (aconv P src dst x) (convert src dst x') w m := by
  unfold aconv
  split
  · split
    · rename_i d k' h1 h2
      cases hx
      exact tells_pure hs (fun _ => ⟨_, by simp only [convert, Sem.run_bind, run_underlying h1, run_underlying h2, Result.andThen_ok]; rfl, .int _ _⟩)
    · exact tells_fail
  · exact tells_fail

def aextract (i : Nat) : AVal → D
  | .tuple vs => .pure (i < vs.length) (vs.getD i .undef)
  | _ => .fail
theorem aextract_tells {P : Program} {w : World} {m : Heap} {i : Nat} {x : AVal} {x' : Value} (hs : Sat m w) (hx : VRel m w x x') : Tells P (aextract i x) (Instr.extract x' i) w m := by
  unfold aextract
  split
  · refine tells_pure hs (fun hi => ?_)
    cases hx with
    | tuple _ vs h hv =>
      refine ⟨vs.getD i Go.undef, ?_, hv i hi⟩
      have : i < vs.size := by omega
      simp [Instr.extract, this, Array.getD_eq_getD_getElem?]
  · exact tells_fail

def apick (b : Bool) : AVal → AVal → AVal
  | .bool p, .bool q => .bool (if b then p else q)
  | x, y => if b then x else y
theorem apick_rel {m : Heap} {w : World} {b : Bool} {x y : AVal} {x' y' : Value} (hx : VRel m w x x') (hy : VRel m w y y') : VRel m w (apick b x y) (if b then x' else y') := by
  unfold apick
  split
  · cases hx; cases hy; cases b <;> exact .bool _
  · cases b
    · exact hy
    · exact hx

/-! ### What is built of parts -/
def isUndef : AVal → Bool
  | .undef => true
  | _ => false
def afill (places : Nat → Option (Nat × Nat)) (cells : List AVal) : List (Nat × AVal) → Option (List AVal)
  | [] => some cells
  | (i, v) :: rest => match places i with
    | none => none
    | some (off, size) => if isUndef v = false ∧ v.cells.length = size ∧ off + size ≤ cells.length then afill places (splice cells off v.cells) rest else none

theorem foldl_set (off : Nat) : ∀ (l : List Value) (k : Nat) (cells : Array Value), off + k + l.length ≤ cells.size →
    (∀ i, ((l.zipIdx k).foldl (fun cs (p : Value × Nat) => cs.setIfInBounds (off + p.2) p.1) cells).getD i Go.undef =
      if i < off + k then cells.getD i Go.undef else if i < off + k + l.length then l.getD (i - (off + k)) Go.undef else cells.getD i Go.undef) ∧
    ((l.zipIdx k).foldl (fun cs (p : Value × Nat) => cs.setIfInBounds (off + p.2) p.1) cells).size = cells.size
  | [], k, cells, h => by
    refine ⟨fun i => ?_, rfl⟩
    simp only [List.zipIdx_nil, List.foldl_nil, List.length_nil, Nat.add_zero]
    by_cases g : i < off + k <;> simp [g]
  | v :: l, k, cells, h => by
    simp only [List.zipIdx_cons, List.foldl_cons]
    obtain ⟨h1, h2⟩ := foldl_set off l (k + 1) (cells.setIfInBounds (off + k) v) (by simp at h ⊢; omega)
    refine ⟨fun i => ?_, by rw [h2]; simp⟩
    rw [h1 i]
    simp at h
    by_cases g1 : i < off + k
    · have : i < off + (k + 1) := by omega
      have hne : ¬ off + k = i := by omega
      simp [g1, this, Array.getD_eq_getD_getElem?, Array.getElem?_setIfInBounds, hne]
    · by_cases g2 : i = off + k
      · subst g2
        have : off + k < cells.size := by omega
        simp [Array.getD_eq_getD_getElem?, Array.getElem?_setIfInBounds, this]
      · have e1 : ¬ i < off + (k + 1) := by omega
        simp only [g1, e1, if_false, List.length_cons]
        by_cases g3 : i < off + k + (l.length + 1)
        · have : i < off + (k + 1) + l.length := by omega
          simp only [g3, this, if_true]
          rw [show i - (off + k) = (i - (off + (k + 1))) + 1 by omega]
          simp [List.getD_eq_getElem?_getD]
        · have : ¬ i < off + (k + 1) + l.length := by omega
          have hne : ¬ off + k = i := by omega
          simp only [g3, this, if_false]
          simp [Array.getD_eq_getD_getElem?, Array.getElem?_setIfInBounds, hne]

theorem afill_sound {m : Heap} {w : World} (places : Nat → Option (Nat × Nat)) : ∀ (parts : List (Nat × AVal)) (cells : List AVal) (r : List AVal), afill places cells parts = some r →
    ∀ (parts' : List (Nat × Value)) (cells' : Array Value), parts.length = parts'.length → (∀ i, i < parts.length → (parts.getD i (0, .undef)).1 = (parts'.getD i (0, Go.undef)).1 ∧ VRel m w (parts.getD i (0, .undef)).2 (parts'.getD i (0, Go.undef)).2) →
      cells.length = cells'.size → (∀ i, i < cells.length → VRel m w (cells.getD i .undef) (cells'.getD i Go.undef)) →
      ∃ r', Instr.fill places cells' parts' = some r' ∧ r.length = r'.size ∧ ∀ i, i < r.length → VRel m w (r.getD i .undef) (r'.getD i Go.undef)
  | [], cells, r, h, parts', cells', hl, _, hc, hv => by
    simp only [afill, Option.some.injEq] at h; subst h
    cases parts' with
    | nil => exact ⟨cells', rfl, hc, hv⟩
    | cons _ _ => simp at hl
  | (i, v) :: rest, cells, r, h, parts', cells', hl, hp, hc, hv => by
    cases parts' with
    | nil => simp at hl
    | cons q rest' =>
      obtain ⟨i', v'⟩ := q
      obtain ⟨rfl, hvv⟩ : i = i' ∧ VRel m w v v' := by have := hp 0 (by simp); simpa using this
      have hp' : ∀ j, j < rest.length → (rest.getD j (0, .undef)).1 = (rest'.getD j (0, Go.undef)).1 ∧ VRel m w (rest.getD j (0, .undef)).2 (rest'.getD j (0, Go.undef)).2 := by
        intro j hj; have := hp (j + 1) (by simp; omega); simpa [List.getD_eq_getElem?_getD] using this
      simp only [afill] at h
      split at h
      · simp at h
      · rename_i off size hpl
        split at h
        · rename_i hfit
          obtain ⟨hne, hsz, hfit⟩ := hfit
          obtain ⟨k1, k2⟩ := hvv.cells (by rintro rfl; simp [isUndef] at hne)
          have hf := foldl_set off v'.cells.toList 0 cells' (by simp; omega)
          simp only [Nat.add_zero, Array.length_toList] at hf
          have hfit' : off + v.cells.length ≤ cells.length := by omega
          obtain ⟨r', g1, g2, g3⟩ := afill_sound places rest (splice cells off v.cells) r h rest' ((v'.cells.toList.zipIdx 0).foldl (fun cs (p : Value × Nat) => cs.setIfInBounds (off + p.2) p.1) cells') (by simpa using hl) hp'
            (by rw [splice_length hfit', hf.2]; exact hc) (fun j hj => by
              rw [splice_length hfit'] at hj
              rw [splice_getD hfit', hf.1 j, ← k1]
              by_cases e1 : j < off
              · simp only [e1, if_true]; exact hv j hj
              · by_cases e2 : j < off + v.cells.length
                · simp only [e1, e2, if_true, if_false]
                  have := k2 (j - off) (by omega)
                  simpa [Array.getD_eq_getD_getElem?, List.getD_eq_getElem?_getD] using this
                · simp only [e1, e2, if_false]; exact hv j hj)
          refine ⟨r', ?_, g2, g3⟩
          simp only [Instr.fill, hpl]
          have c1 : (decide (v'.cells.size ≠ size) || decide (off + v'.cells.size > cells'.size)) = false := by simp; omega
          rw [if_neg (by simpa using c1)]
          rw [← g1]
          congr 1
          rw [← Array.foldl_toList]
          simp
        · simp at h

/-- Where a struct's fields are: their places and how many cells they have. -/
def pls (P : Program) (t : TypeId) : Option (List (Nat × Nat)) := match P.underlying t with
  | some (.struct fs) => fs.toList.mapM fun f => (tk P f.type).map fun p => (f.offset, p.2)
  | _ => none
theorem run_places {P : Program} {w : World} : ∀ (fs : List Field) (l : List (Nat × Nat)), (fs.mapM fun f => (tk P f.type).map fun p => (f.offset, p.2)) = some l →
    (fs.mapM (fun f => (do pure (f.offset, ← sizeOf f.type) : Sem (Nat × Nat)))).run P w = .ok l w
  | [], l, h => by simp at h; subst h; simp
  | f :: fs, l, h => by
    simp only [List.mapM_cons, Option.bind_eq_bind, Option.bind_eq_some_iff] at h
    obtain ⟨p, hp, l', hl', h⟩ := h
    simp only [Option.map_eq_some_iff] at hp
    obtain ⟨⟨a, n⟩, ht, rfl⟩ := hp
    have ih := run_places (w := w) fs l' hl'
    simp only [Option.pure_def, Option.some.injEq] at h
    subst h
    simp only [List.mapM_cons, Sem.run_bind, run_sizeOf' ht, Result.andThen_ok, Sem.run_pure, ih]

def partsOf (vs : List (Nat × AVal)) : List (Nat × AVal) := vs
def abuild (P : Program) (t : TypeId) (parts : List (Nat × AVal)) : D :=
  match zc P t, pls P t with
  | some z, some l => match afill (fun i => l[i]?) z parts with
    | some r => .pure True (.agg r)
    | none => .fail
  | some z, none => match P.underlying t with
    | some (.array _ e) => match tk P e with
      | some (_, n) => match afill (fun i => some (i * n, n)) z parts with
        | some r => .pure True (.agg r)
        | none => .fail
      | none => .fail
    | _ => .fail
  | _, _ => .fail
theorem abuild_tells {P : Program} {w : World} {m : Heap} {t : TypeId} {parts : List (Nat × AVal)} {parts' : Array (Nat × Value)} (hs : Sat m w) (hl : parts.length = parts'.size)
    (hp : ∀ i, i < parts.length → (parts.getD i (0, .undef)).1 = (parts'.toList.getD i (0, Go.undef)).1 ∧ VRel m w (parts.getD i (0, .undef)).2 (parts'.toList.getD i (0, Go.undef)).2) :
    Tells P (abuild P t parts) (Instr.build t parts') w m := by
  unfold abuild
  split
  · rename_i z l hz hpl
    split
    · rename_i r hr
      refine tells_pure hs (fun _ => ?_)
      obtain ⟨zv, z1, z2, z3⟩ := run_zc hz w
      unfold pls at hpl
      split at hpl
      · rename_i fs hu
        obtain ⟨r', g1, g2, g3⟩ := afill_sound (m := m) (w := w) _ _ _ _ hr parts'.toList zv.cells (by simpa using hl) hp z2 (z3 m w)
        refine ⟨.agg r', ?_, .agg _ _ g2 g3⟩
        have hpr := run_places (w := w) fs.toList l hpl
        have : (fs.mapM (fun f => (do pure (f.offset, ← sizeOf f.type) : Sem (Nat × Nat)))).run P w = .ok l.toArray w := by
          rw [Array.mapM_eq_mapM_toList]; simp only [Sem.run_map, hpr, Result.andThen_ok]
        have hg : (fun i : Nat => l.toArray[i]?) = (fun i : Nat => l[i]?) := by funext i; simp
        simp only [Instr.build, Sem.run_bind, z1, Result.andThen_ok, run_underlying hu, this, hg, g1, Sem.run_pure]
      · simp at hpl
    · exact tells_fail
  · rename_i z hz hpl
    split
    · rename_i len e hu
      split
      · rename_i a n he
        split
        · rename_i r hr
          refine tells_pure hs (fun _ => ?_)
          obtain ⟨zv, z1, z2, z3⟩ := run_zc hz w
          obtain ⟨r', g1, g2, g3⟩ := afill_sound (m := m) (w := w) _ _ _ _ hr parts'.toList zv.cells (by simpa using hl) hp z2 (z3 m w)
          refine ⟨.agg r', ?_, .agg _ _ g2 g3⟩
          simp only [Instr.build, Sem.run_bind, z1, Result.andThen_ok, run_underlying hu, run_sizeOf' he, g1, Sem.run_pure]
        · exact tells_fail
      · exact tells_fail
    · exact tells_fail
  · exact tells_fail

end Go.Proofs.YtdckcophbmnjjaaGreatDoor.Ab
namespace Go.Proofs.YtdckcophbmnjjaaGreatDoor.Ab
open Go

def alen (P : Program) (t : TypeId) (x : AVal) : D :=
  match P.underlying t with
  | some (.slice _) => match x with
    | .slice _ _ n _ => .pure True (.int .i64 n)
    | .list _ xs => .pure True (.int .i64 xs.length)
    | .nils => .pure True (.int .i64 0)
    | _ => .fail
  | some (.array n _) => .pure True (.int .i64 n)
  | some (.map _ _) => match x with
    | .nilmap => .pure True (.int .i64 0)
    | .map b => .read b (fun x => match x with | .map _ _ _ => True | _ => False) (fun x => match x with | .map es _ _ => .int .i64 es.length | _ => .undef)
    | _ => .fail
  | _ => .fail
theorem alen_tells {P : Program} {w : World} {m : Heap} {t ty : TypeId} {x : AVal} {x' : Value} (hs : Sat m w) (hx : VRel m w x x') : Tells P (alen P t x) (Builtin.len_ #[t] ty #[x']) w m := by
  unfold alen
  split
  · rename_i e hu
    split
    · cases hx; exact tells_pure hs (fun _ => ⟨_, by simp only [Builtin.len_, Sem.run_bind, run_underlying hu, Result.andThen_ok, List.getElem?_toArray]; simp [goInt, run_underlying hu], .int _ _⟩)
    · cases hx <;> exact tells_pure hs (fun _ => ⟨_, by simp [Builtin.len_, run_underlying hu, goInt], .int _ _⟩)
    · cases hx; exact tells_pure hs (fun _ => ⟨_, by simp [Builtin.len_, run_underlying hu, goInt], .int _ _⟩)
    · exact tells_fail
  · rename_i n e hu
    exact tells_pure hs (fun _ => ⟨.int .i64 n, by simp [Builtin.len_, run_underlying hu, goInt], .int _ _⟩)
  · rename_i k e hu
    split
    · cases hx; exact tells_pure hs (fun _ => ⟨.int .i64 0, by simp [Builtin.len_, run_underlying hu, goInt], .int _ _⟩)
    · rename_i b
      refine tells_read hs (fun y hy hc => ?_)
      cases y with
      | map es bs cl =>
        cases hx
        obtain ⟨ents, h1, _, _, _, h4, _⟩ := hs b _ hy
        refine ⟨.int .i64 es.length, ?_, .int _ _⟩
        simp [Builtin.len_, run_underlying hu, goInt, getObj, Sem.run, h1, h4]
      | cells => exact hc.elim
      | obj => exact hc.elim
      | loop => exact hc.elim
    · exact tells_fail
  · exact tells_fail

/-! ### min, max -/
/-- The greater, the smaller of two. -/
def imx (x y : Int) : Int := if y > x then y else x
def imn (x y : Int) : Int := if y < x then y else x
def amm (mx : Bool) : List AVal → D
  | [.int k x, .int _ y] => .pure True (.int k (if mx then imx x y else imn x y))
  | _ => .fail
theorem amin_tells {P : Program} {w : World} {m : Heap} {ts : Array TypeId} {ty : TypeId} {xs : List AVal} {xs' : Array Value} (hs : Sat m w) (hl : xs.length = xs'.size) (hx : ∀ i, i < xs.length → VRel m w (xs.getD i .undef) (xs'.getD i Go.undef)) :
    Tells P (amm false xs) (Builtin.min_ ts ty xs') w m ∧ Tells P (amm true xs) (Builtin.max_ ts ty xs') w m := by
  unfold amm
  split
  · rename_i k x k' y
    obtain ⟨l⟩ := xs'
    match l, hl, hx with
    | [p, q], _, hx =>
      have h0 := hx 0 (by simp)
      have h1 := hx 1 (by simp)
      simp at h0 h1
      cases h0; cases h1
      exact ⟨tells_pure hs (fun _ => ⟨_, by simp only [Builtin.min_, List.foldlM_cons, List.foldlM_nil, Builtin.min2]; rfl, .int _ _⟩), tells_pure hs (fun _ => ⟨_, by simp only [Builtin.max_, List.foldlM_cons, List.foldlM_nil, Builtin.max2]; rfl, .int _ _⟩)⟩
  · exact ⟨tells_fail, tells_fail⟩

/-! ### make -/
def rep (n : Nat) (z : List AVal) : List AVal := (List.replicate n z).flatten
theorem rep_length (n : Nat) (z : List AVal) : (rep n z).length = n * z.length := by simp [rep]
theorem rep_one (n : Nat) (v : AVal) : rep n [v] = List.replicate n v := by
  induction n with
  | zero => rfl
  | succ n ih => simp only [rep, List.replicate_succ, List.flatten_cons, List.singleton_append] at ih ⊢; rw [ih]
theorem rep_getD (z : List AVal) : ∀ (n i : Nat), i < n * z.length → (rep n z).getD i .undef = z.getD (i % z.length) .undef
  | 0, i, h => by simp at h
  | n + 1, i, h => by
    simp only [rep, List.replicate_succ, List.flatten_cons]
    by_cases hi : i < z.length
    · rw [Nat.mod_eq_of_lt hi]; simp only [List.getD_eq_getElem?_getD]; rw [List.getElem?_append_left hi]
    · have hz : 0 < z.length := by
        rcases Nat.eq_zero_or_pos z.length with h0 | h0
        · rw [h0] at h; simp at h
        · exact h0
      have e := rep_getD z n (i - z.length) (by rw [Nat.succ_mul] at h; omega)
      have : (z ++ (List.replicate n z).flatten).getD i .undef = (rep n z).getD (i - z.length) .undef := by
        simp only [List.getD_eq_getElem?_getD]; rw [List.getElem?_append_right (by omega)]; rfl
      rw [this, e]
      congr 1
      conv => rhs; rw [show i = (i - z.length) + z.length by omega]
      rw [Nat.add_mod_right]

theorem map_range_zero {α : Type} (f : Nat → α) : (Array.range 0).map f = #[] := by
  apply Array.ext
  · simp
  · intro i h; simp at h
def eb (P : Program) (e : TypeId) : Option Nat := (P.info? e).map (·.bytes)
theorem run_eb {P : Program} {e : TypeId} {n : Nat} (h : eb P e = some n) (w : World) : ∃ i, (typeInfo e).run P w = .ok i w ∧ i.bytes = n := by
  unfold eb at h
  obtain ⟨i, h1, h2⟩ := Option.map_eq_some_iff.1 h
  exact ⟨i, by unfold typeInfo; simp [h1], h2⟩
theorem wrap_small (x : Int) (h0 : 0 ≤ x) (h1 : x < 9223372036854775808) : IntKind.i64.wrap x = x := by
  have e : x % 18446744073709551616 = x := Int.emod_eq_of_lt h0 (by omega)
  simp only [IntKind.wrap, IntKind.bits, IntKind.signed]
  simp only [show (2 : Int) ^ 64 = 18446744073709551616 from rfl, show (2 : Int) ^ (64 - 1) = 9223372036854775808 from rfl, e]
  simp; omega

def amake (P : Program) (t : TypeId) (l c : AVal) : D :=
  match P.underlying t, l, c with
  | some (.slice e), .int _ l, .int _ c => match zc P e, tk P e, eb P e with
    | some z, some (_, n), some b => .alloc (0 ≤ l ∧ l ≤ c ∧ c * b ≤ 281474976710656 ∧ c ≤ 281474976710656 ∧ z.length = n) (.cells (rep c.toNat z) (c.toNat * n)) (fun a => .slice a 0 l.toNat c.toNat)
    | _, _, _ => .fail
  | _, _, _ => .fail
theorem amake_tells {P : Program} {w : World} {m : Heap} {t : TypeId} {l c : AVal} {l' c' : Value} (hs : Sat m w) (hl : VRel m w l l') (hc : VRel m w c c') : Tells P (amake P t l c) (Instr.makeSlice t l' c') w m := by
  unfold amake
  split
  · rename_i e k l k' c hu
    split
    · rename_i z a n b hz ht hb
      refine tells_alloc hs (fun ⟨h0, h1, h2, h3, h4⟩ => ?_)
      cases hl; cases hc
      obtain ⟨i, g1, g2⟩ := run_eb hb w
      obtain ⟨zv, z1, z2, z3⟩ := run_zc hz w
      have wl : IntKind.i64.wrap l = l := wrap_small l h0 (by omega)
      have wc : IntKind.i64.wrap c = c := wrap_small c (by omega) (by omega)
      let arr : Array Value := (Array.range (c.toNat * n)).map fun j => zv.cells.getD (j % zv.cells.size) Go.undef
      refine ⟨.cells arr e, .slice (some ⟨w.heap.size, 0, none⟩) l.toNat c.toNat, ?_, ?_, .slice _ _ _ _⟩
      · have hbb : ¬ ((i.bytes : Int) * c > 281474976710656) := by rw [g2, Int.mul_comm]; omega
        have hll : ¬ (l < 0) := by omega
        have hcc : ¬ (c < 0) := by omega
        have hlc : ¬ (l > c) := by omega
        simp only [Instr.makeSlice, Sem.run_bind, run_underlying hu, Result.andThen_ok, asInt, asIntOf, Sem.run_pure, g1, wl, wc]
        have hcond : (decide (c < 0) || decide ((i.bytes : Int) * c > 2 ^ 48) || decide (l < 0) || decide (l > c)) = false := by
          simp only [show (2 : Int) ^ 48 = 281474976710656 from rfl, hll, hcc, hlc, hbb, decide_false, Bool.or_false]
        simp only [hll, hcc, hlc, show (2 : Int) ^ 48 = 281474976710656 from rfl, hbb, decide_false, Bool.or_false, Bool.false_eq_true, false_or, or_false, if_false, Sem.run_pure, Result.andThen_ok, Sem.run_bind, run_askRoom, run_sizeOf' ht]
        by_cases hn : c.toNat * n = 0
        · have h00 : (Array.range 0).map (fun j => zv.cells.getD (j % zv.cells.size) Go.undef) = #[] := map_range_zero _
          have h01 : (Array.range 0).map (fun j => (#[] : Array Value)[j % (#[] : Array Value).size]!) = #[] := map_range_zero _
          simp only [hn, if_true, Sem.run_pure, Result.andThen_ok, newRow, Sem.run_bind, run_newObj, arr, h00, h01]
          rfl
        · simp only [hn, if_false, Sem.run_bind, z1, Result.andThen_ok, Sem.run_pure]
          simp only [newRow, Sem.run_bind, run_newObj, Result.andThen_ok, Sem.run_pure]
          have hz0 : 0 < zv.cells.size := by
            rw [← z2, h4]; exact Nat.pos_of_ne_zero (fun h => hn (by rw [h]; simp))
          have ha : (Array.range (c.toNat * n)).map (zv.cells[· % zv.cells.size]!) = arr := by
            simp only [arr]
            apply Array.ext
            · simp
            · intro j q1 q2
              have : j % zv.cells.size < zv.cells.size := Nat.mod_lt _ hz0
              simp [Array.getD_eq_getD_getElem?, this]
          rw [ha]; rfl
      · intro m' w' e'
        refine ⟨arr, e, rfl, by simp [arr], by rw [rep_length, h4]; exact Nat.le_refl _, fun j hj => ?_⟩
        rw [rep_length] at hj
        rw [rep_getD z _ _ hj]
        have hzl : 0 < z.length := by
          rcases Nat.eq_zero_or_pos z.length with h0' | h0'
          · rw [h0'] at hj; simp at hj
          · exact h0'
        have hm := Nat.mod_lt j hzl
        have := z3 m' w' (j % z.length) hm
        have ej : arr.getD j Go.undef = zv.cells.getD (j % zv.cells.size) Go.undef := by
          rw [h4] at hj
          simp only [arr, Array.getD_eq_getD_getElem?]
          simp [hj]
        rw [ej, ← z2]; exact this
    · exact tells_fail
  · exact tells_fail

def abuildSlice (P : Program) (t : TypeId) (len : Nat) (parts : List (Nat × AVal)) : D :=
  match P.underlying t with
  | some (.slice e) => match zc P e, tk P e with
    | some z, some (_, n) => match afill (fun i => some (i * n, n)) (rep len z) parts with
      | some r => .alloc (len * n ≤ 16777216 ∧ z.length = n) (.cells r r.length) (fun a => .slice a 0 len len)
      | none => .fail
    | _, _ => .fail
  | _ => .fail
theorem abuildSlice_tells {P : Program} {w : World} {m : Heap} {t : TypeId} {len : Nat} {parts : List (Nat × AVal)} {parts' : Array (Nat × Value)} (hs : Sat m w) (hl : parts.length = parts'.size)
    (hp : ∀ i, i < parts.length → (parts.getD i (0, .undef)).1 = (parts'.toList.getD i (0, Go.undef)).1 ∧ VRel m w (parts.getD i (0, .undef)).2 (parts'.toList.getD i (0, Go.undef)).2) :
    Tells P (abuildSlice P t len parts) (Instr.buildSlice t len parts') w m := by
  unfold abuildSlice
  split
  · rename_i e hu
    split
    · rename_i z a n hz ht
      split
      · rename_i r hr
        refine tells_alloc hs (fun ⟨h0, h4⟩ => ?_)
        obtain ⟨zv, z1, z2, z3⟩ := run_zc hz w
        let arr : Array Value := (Array.range (len * n)).map fun j => zv.cells.getD (j % zv.cells.size) Go.undef
        have harr : ∀ i, i < (rep len z).length → VRel m w ((rep len z).getD i .undef) (arr.getD i Go.undef) := by
          intro j hj
          rw [rep_length] at hj
          rw [rep_getD z _ _ hj]
          have hzl : 0 < z.length := by
            rcases Nat.eq_zero_or_pos z.length with h0' | h0'
            · rw [h0'] at hj; simp at hj
            · exact h0'
          have := z3 m w (j % z.length) (Nat.mod_lt j hzl)
          have ej : arr.getD j Go.undef = zv.cells.getD (j % zv.cells.size) Go.undef := by
            rw [h4] at hj
            simp only [arr, Array.getD_eq_getD_getElem?]
            simp [hj]
          rw [ej, ← z2]; exact this
        obtain ⟨r', g1, g2, g3⟩ := afill_sound (m := m) (w := w) _ _ _ _ hr parts'.toList arr (by simpa using hl) hp (by rw [rep_length, h4]; simp [arr]) harr
        refine ⟨.cells r' e, .slice (some ⟨w.heap.size, 0, none⟩) len len, ?_, brel_cells _ _ _ g2 g3, .slice _ _ _ _⟩
        have hlim : ¬ (len * n > 2 ^ 24) := by simp only [show (2 : Nat) ^ 24 = 16777216 from rfl]; omega
        simp only [Instr.buildSlice, Sem.run_bind, run_underlying hu, Result.andThen_ok, run_sizeOf' ht, hlim, if_false, Sem.run_pure]
        by_cases hn : len * n = 0
        · simp only [hn, if_true, Sem.run_pure, Result.andThen_ok]
          have h01 : (Array.range 0).map (fun j => (#[] : Array Value)[j % (#[] : Array Value).size]!) = #[] := map_range_zero _
          have h00 : arr = #[] := by simp only [arr, hn]; exact map_range_zero _
          rw [h00] at g1
          simp only [h01, g1, Sem.run_bind, newRow, run_newObj, Result.andThen_ok, Sem.run_pure]
          rfl
        · simp only [hn, if_false, Sem.run_bind, z1, Result.andThen_ok, Sem.run_pure]
          have hz0 : 0 < zv.cells.size := by
            rw [← z2, h4]; exact Nat.pos_of_ne_zero (fun h => hn (by rw [h]; simp))
          have ha : (Array.range (len * n)).map (zv.cells[· % zv.cells.size]!) = arr := by
            simp only [arr]
            apply Array.ext
            · simp
            · intro j q1 q2
              have : j % zv.cells.size < zv.cells.size := Nat.mod_lt _ hz0
              simp [Array.getD_eq_getD_getElem?, this]
          rw [ha, g1]
          simp [newRow]
      · exact tells_fail
    · exact tells_fail
  · exact tells_fail

end Go.Proofs.YtdckcophbmnjjaaGreatDoor.Ab
namespace Go.Proofs.YtdckcophbmnjjaaGreatDoor.Ab
open Go

theorem splice_lengthN {cs vs : List AVal} {o : Nat} (h : o ≤ cs.length) : (splice cs o vs).length = o + vs.length + (cs.length - (o + vs.length)) := by
  simp only [splice, List.length_append, List.length_take, List.length_drop]; omega
theorem splice_getDN {cs vs : List AVal} {o : Nat} (h : o ≤ cs.length) (i : Nat) :
    (splice cs o vs).getD i .undef = if i < o then cs.getD i .undef else if i < o + vs.length then vs.getD (i - o) .undef else cs.getD i .undef := by
  have ho : min o cs.length = o := by omega
  simp only [splice, List.getD_eq_getElem?_getD, List.append_assoc, List.getElem?_append, List.length_take, ho, List.getElem?_take, List.getElem?_drop]
  by_cases h1 : i < o
  · simp [h1]
  · by_cases h2 : i < o + vs.length
    · have : i - o < vs.length := by omega
      simp [h1, h2, this]
    · have : ¬ i - o < vs.length := by omega
      simp only [h1, h2, this, if_false]
      congr 2; omega

theorem store_stepN {P : Program} {m : Heap} {w : World} (hs : Sat m w) {p : Nat} {cs : List AVal} {N : Nat} (hp : m p = some (.cells cs N)) (o : Nat) (vs : List AVal) (xs : List Value)
    (hl : vs.length = xs.length) (hv : ∀ i, i < vs.length → VRel m w (vs.getD i .undef) (xs.getD i Go.undef)) (hf : vs.all AVal.flat = true) (hfit : o ≤ cs.length) (hfN : o + vs.length ≤ N) :
    ∃ w', (storeCells ⟨p, o, none⟩ xs).run P w = .ok () w' ∧ Sat (hupd m p (.cells (splice cs o vs) N)) w' ∧ Ext m w (hupd m p (.cells (splice cs o vs) N)) w' := by
  obtain ⟨arr, ty, k1, k2, k3, k4⟩ := hs p _ hp
  have h1 : ∀ v ∈ xs, v.oneCell' = true := by
    intro v hvm
    obtain ⟨i, hi, rfl⟩ := List.getElem_of_mem hvm
    have hi' : i < vs.length := by omega
    have hr := hv i hi'
    have e1 : xs.getD i Go.undef = xs[i] := by simp [List.getD_eq_getElem?_getD, hi]
    rw [e1] at hr
    refine hr.oneCell ?_
    have := List.all_eq_true.1 hf (vs.getD i .undef) (by simp [List.getD_eq_getElem?_getD, hi'])
    exact this
  have hst := run_storeCells_at P p o ty xs 0 arr w k1 (by omega) h1
  simp only [Nat.add_zero] at hst
  refine ⟨_, hst, ?_⟩
  refine write_step hs hp ?_ rfl rfl ⟨rfl, Nat.le_refl _⟩ ?_ ?_
  · simp [World.setRow]
  · intro b hb
    simp only [World.setRow, Array.getElem?_modify]
    rw [if_neg (fun h => hb h.symm)]
  · intro m' w'' e
    have hrow := setRow_heap w p arr ((arr.toList.take o ++ xs ++ arr.toList.drop (o + xs.length)).toArray) ty (0, 0) k1
    rw [hrow]
    refine ⟨_, ty, rfl, ?_, ?_, fun i hi => ?_⟩
    · simp; omega
    · rw [splice_lengthN hfit]; omega
    · rw [splice_lengthN hfit] at hi
      rw [splice_getDN hfit]
      have ho : min o arr.toList.length = o := by simp; omega
      have hx : ((arr.toList.take o ++ xs ++ arr.toList.drop (o + xs.length)).toArray).getD i Go.undef =
          if i < o then arr.getD i Go.undef else if i < o + xs.length then xs.getD (i - o) Go.undef else arr.getD i Go.undef := by
        simp only [Array.getD_eq_getD_getElem?, List.getElem?_toArray, List.append_assoc, List.getElem?_append, List.length_take, ho, List.getElem?_take, List.getElem?_drop]
        by_cases g1 : i < o
        · simp [g1]
        · by_cases g2 : i < o + xs.length
          · have : i - o < xs.length := by omega
            simp [g1, g2, this, List.getD_eq_getElem?_getD]
          · have : ¬ i - o < xs.length := by omega
            simp only [g1, g2, this, if_false]
            simp
            congr 2; omega
      rw [hx, ← hl]
      by_cases g1 : i < o
      · simp only [g1, if_true]; exact (k4 i (by omega)).ext e
      · by_cases g2 : i < o + vs.length
        · simp only [g1, g2, if_true, if_false]; exact (hv (i - o) (by omega)).ext e
        · simp only [g1, g2, if_false]; exact (k4 i (by omega)).ext e

/-- The cells of what is appended, or copied. -/
def src (sz : Nat) (m : Heap) : AVal → (Nat → List AVal → Prop) → Prop
  | .nils, k => k 0 []
  | .list sz' xs, k => sz' = sz ∧ k xs.length (xs.flatMap AVal.cells)
  | .slice b o n _, k => match m b with
    | some (.cells cs _) => o + n * sz ≤ cs.length ∧ k n ((cs.drop o).take (n * sz))
    | _ => False
  | _, _ => False

theorem flatMap_cells (sz : Nat) : ∀ (xs : List AVal), (∀ i, i < xs.length → (xs.getD i .undef).cells.length = sz) →
    (xs.flatMap AVal.cells).length = xs.length * sz ∧ ∀ k, k < xs.length * sz → (xs.flatMap AVal.cells).getD k .undef = ((xs.getD (k / sz) .undef).cells.getD (k % sz) .undef)
  | [], h => by simp
  | x :: xs, h => by
    have h0 : x.cells.length = sz := by simpa using h 0 (by simp)
    obtain ⟨g1, g2⟩ := flatMap_cells sz xs (fun i hi => by simpa [List.getD_eq_getElem?_getD] using h (i + 1) (by simp; omega))
    refine ⟨by simp only [List.flatMap_cons, List.length_append, List.length_cons, g1, h0]; rw [Nat.succ_mul]; omega, fun k hk => ?_⟩
    simp only [List.flatMap_cons]
    have hsz : 0 < sz := by
      rcases Nat.eq_zero_or_pos sz with h' | h'
      · rw [h'] at hk; simp at hk
      · exact h'
    by_cases hlt : k < sz
    · rw [Nat.div_eq_of_lt hlt, Nat.mod_eq_of_lt hlt]
      simp only [List.getD_eq_getElem?_getD]
      rw [List.getElem?_append_left (by omega)]; rfl
    · have e1 : (x.cells ++ xs.flatMap AVal.cells).getD k .undef = (xs.flatMap AVal.cells).getD (k - sz) .undef := by
        simp only [List.getD_eq_getElem?_getD]
        rw [List.getElem?_append_right (by omega), h0]
      rw [e1, g2 (k - sz) (by simp only [List.length_cons] at hk; rw [Nat.succ_mul] at hk; omega)]
      have e2 : k / sz = (k - sz) / sz + 1 := by
        have : k = (k - sz) + sz := by omega
        conv => lhs; rw [this]
        rw [Nat.add_div_right _ hsz]
      have e3 : k % sz = (k - sz) % sz := by
        have : k = (k - sz) + sz := by omega
        conv => lhs; rw [this]
        rw [Nat.add_mod_right]
      rw [e2, e3]
      simp [List.getD_eq_getElem?_getD]

/-- What 'src' tells: the length, and the first cells as the model reads them. -/
theorem src_sound {P : Program} {m : Heap} {w : World} {sz : Nat} {x : AVal} {x' : Value} {k : Nat → List AVal → Prop} (hs : Sat m w) (hx : VRel m w x x') (h : src sz m x k) :
    ∃ n ys, k n ys ∧ src sz m x (fun n' ys' => n' = n ∧ ys' = ys) ∧ ys.length = n * sz ∧ (Builtin.lenOf x').run P w = .ok n w ∧
      ∀ n', n' ≤ n → ∃ zs : Array Value, (Builtin.firstCells sz n' x').run P w = .ok zs w ∧ zs.size = n' * sz ∧ ∀ i, i < n' * sz → VRel m w (ys.getD i .undef) (zs.getD i Go.undef) := by
  cases x with
  | nils =>
    cases hx
    refine ⟨0, [], h, ⟨rfl, rfl⟩, by simp, rfl, fun n' hn => ?_⟩
    have h0 : n' = 0 := by omega
    subst h0
    exact ⟨#[], by simp [Builtin.firstCells], by simp, fun i hi => by simp at hi⟩
  | list sz' xs =>
    obtain ⟨rfl, h⟩ := h
    cases hx with
    | list0 _ a cap =>
      refine ⟨0, [], by simpa using h, ⟨rfl, rfl, rfl⟩, by simp, rfl, fun n' hn => ?_⟩
      have h0 : n' = 0 := by omega
      subst h0
      cases a with
      | none => exact ⟨#[], by simp [Builtin.firstCells], by simp, fun i hi => by simp at hi⟩
      | some a =>
        refine ⟨#[], ?_, by simp, fun i hi => by simp at hi⟩
        simp [Builtin.firstCells, loadCells, loadCellsFrom]
    | list _ _ b off cap f hm hb hcap hsz hc hv =>
      obtain ⟨g1, g2⟩ := flatMap_cells sz' xs hsz
      refine ⟨xs.length, xs.flatMap AVal.cells, h, ⟨rfl, rfl, rfl⟩, g1, rfl, fun n' hn => ?_⟩
      have hcell : ∀ i, i < (xs.flatMap AVal.cells).length → ∃ x, w.cell? ⟨b, off + i, none⟩ = some x ∧ VRel m w ((xs.flatMap AVal.cells).getD i .undef) x := by
        intro i hi
        rw [g1] at hi
        have hsz0 : 0 < sz' := by
          rcases Nat.eq_zero_or_pos sz' with h' | h'
          · rw [h'] at hi; simp at hi
          · exact h'
        have hdiv : i / sz' < xs.length := (Nat.div_lt_iff_lt_mul hsz0).2 hi
        have hmod := Nat.mod_lt i hsz0
        refine ⟨f (i / sz') (i % sz'), ?_, ?_⟩
        · have := hc _ _ hdiv hmod
          rw [Nat.mul_comm, Nat.div_add_mod] at this
          exact this
        · rw [g2 i hi]; exact hv _ _ hdiv hmod
      have hle : n' * sz' ≤ (xs.flatMap AVal.cells).length := by rw [g1]; exact Nat.mul_le_mul_right _ hn
      obtain ⟨zs, z1, z2, z3⟩ := run_loadCells' (P := P) (m := m) b off 0 (n' * sz') (xs.flatMap AVal.cells) (by omega) hcell
      refine ⟨zs, by simpa [Builtin.firstCells] using z1, z2, fun i hi => ?_⟩
      have := z3 i hi
      simpa [List.getD_eq_getElem?_getD, List.getElem?_take, hi] using this
  | slice b o n cap =>
    cases hx
    simp only [src] at h
    split at h
    · rename_i cs N hb
      obtain ⟨h0, h⟩ := h
      refine ⟨n, (cs.drop o).take (n * sz), h, by simp only [src, hb]; exact ⟨h0, trivial, trivial⟩, by simp; omega, rfl, fun n' hn => ?_⟩
      have hle : n' * sz ≤ n * sz := Nat.mul_le_mul_right _ hn
      obtain ⟨zs, z1, z2, z3⟩ := run_loadCells' (P := P) (m := m) b 0 o (n' * sz) cs (by omega) (cells_at (hs b _ hb))
      refine ⟨zs, by simpa [Builtin.firstCells] using z1, z2, fun i hi => ?_⟩
      have := z3 i hi
      have hi2 : i < n * sz := by omega
      simpa [List.getD_eq_getElem?_getD, List.getElem?_take, hi, hi2] using this
    · exact h.elim
  | _ => exact h.elim

def zl (P : Program) (e : TypeId) : Option Nat := (zc P e).map List.length
def isInt (P : Program) (t : TypeId) : Bool := match P.underlying t with
  | some (.int _) => true
  | _ => false
/-- What is appended: so many elements, and their cells. -/
def appSrc (P : Program) (xt e : TypeId) (sz bytes : Nat) (m : Heap) (x : AVal) (k : Nat → List AVal → Prop) : Prop :=
  if isInt P xt then match x with
    | .int _ l => match zc P e with
      | some z => 0 ≤ l ∧ l * bytes ≤ 1099511627776 ∧ l ≤ 1099511627776 ∧ z.length = sz ∧ k l.toNat (rep l.toNat z)
      | none => False
    | _ => False
  else src sz m x k

/-- What append comes to at a slice, if n elements with the cells ys are appended. -/
def appTo (sz by' n : Nat) (ys : List AVal) (s : AVal) (m : Heap) (K : AVal → Heap → Prop) : Prop :=
      match s with
      | .nils => (n = 0 → K .nils m) ∧ (0 < n → n * by' ≤ 1099511627776 ∧ ∀ b cap, m b = none → n ≤ cap → K (.slice b 0 n cap) (hupd m b (.cells ys (cap * sz))))
      | .slice b o len cap => match m b with
        | some (.cells cs N) => (o + len * sz ≤ cs.length ∧ o + cap * sz ≤ N) ∧
          (len + n ≤ cap → K (.slice b o (len + n) cap) (hupd m b (.cells (splice cs (o + len * sz) ys) N))) ∧
          (cap < len + n → (len + n) * by' ≤ 1099511627776 ∧ ∀ b' cap', m b' = none → len + n ≤ cap' → K (.slice b' 0 (len + n) cap') (hupd m b' (.cells ((cs.drop o).take (len * sz) ++ ys) (cap' * sz))))
        | _ => False
      | _ => False

def aappend (P : Program) (st xt : TypeId) (s x : AVal) (m : Heap) (K : AVal → Heap → Prop) : Prop :=
  match P.underlying st with
  | some (.slice e) => match tk P e, eb P e with
    | some (_, sz), some by' => (0 < by' ∧ (P.underlying xt).isSome = true ∧ zl P e = some sz) ∧ appSrc P xt e sz by' m x fun n ys => ys.all AVal.flat = true ∧ appTo sz by' n ys s m K
    | _, _ => False
  | _ => False

theorem growBy_le : ∀ (rounds n c : Nat), Builtin.growBy n rounds c ≤ max c (n + (n + 768) / 4)
  | 0, n, c => by simp [Builtin.growBy]; omega
  | r + 1, n, c => by
    simp only [Builtin.growBy]
    split
    · omega
    · have := growBy_le r n (c + (c + 768) / 4)
      omega
theorem nextslicecap_le (n c : Nat) (h : c < n) : Builtin.nextslicecap n c ≤ 2 * n + 192 := by
  unfold Builtin.nextslicecap
  split
  · omega
  · split
    · omega
    · have := growBy_le 4 n c; omega

theorem draw_step {m : Heap} {w : World} (hs : Sat m w) : Sat m w.drew ∧ Ext m w m w.drew := by
  have e : Ext m w m w.drew := ⟨Nat.le_refl _, rfl, rfl, ⟨rfl, Nat.le_succ _⟩, fun _ _ h => ⟨rfl, h⟩⟩
  exact ⟨fun b x hx => (hs b x hx).ext e, e⟩


/-- The model's append, behind the reckoning of what is appended. -/
def appBack (e : TypeId) (size : Nat) (zeros : Bool) (n : Nat) (appended : Sem (Array Value)) (s x : Value) (base : Option Addr) (sLen sCap : Nat) : Sem Value := do
  let need := sLen + n
  if need ≤ sCap then
    let new ← appended
    if let some a := base then storeCells (a.add (sLen * size)) new.toList
    pure (.slice base need sCap)
  else
    if (need : Int) > IntKind.i64.max ∧ (zeros ∨ (← typeInfo e).bytes = 0) then runtimePanic (.error "growslice: len out of range")
    if Builtin.nextslicecap need sCap * (← typeInfo e).bytes > 2 ^ 48 then (if zeros then runtimePanic (.error "growslice: len out of range") else do
      if !(← Builtin.mayShare size sLen n base x) then mark .noRoom
      unsupported (.resourceLimit "append: a slice or a string whose bytes no memory bears"))
    let newCap ← choose (.appendCap need sCap e)
    askRoom (newCap * (← typeInfo e).bytes)
    let old ← Builtin.firstCells size sLen s
    let new ← appended
    let rest := Builtin.zeroCells (← zeroValue e).cells (newCap - need)
    pure (.slice (some (← newRow e (old ++ new ++ rest))) need newCap)

theorem append_zeros {P : Program} {w : World} {st xt ty e : TypeId} {k k' : IntKind} {base : Option Addr} {sLen sCap sz by' : Nat} {a : Bool} {l : Int} (hu : P.underlying st = some (.slice e)) (ht : tk P e = some (a, sz))
    (hx : P.underlying xt = some (.int k)) (hb : eb P e = some by') (h0 : 0 ≤ l) (h1 : l * by' ≤ 281474976710656) (h2 : l < 9223372036854775808) :
    (Builtin.append_ #[st, xt] ty #[.slice base sLen sCap, .int k' l]).run P w =
      (appBack e sz true l.toNat (if l.toNat * sz = 0 then pure #[] else do pure (Builtin.zeroCells (← zeroValue e).cells l.toNat)) (.slice base sLen sCap) (.int k' l) base sLen sCap).run P w := by
  obtain ⟨i, g1, g2⟩ := run_eb hb w
  have wl : IntKind.i64.wrap l = l := wrap_small l h0 h2
  have hl0 : ¬ l < 0 := by omega
  have hl1 : ¬ (l * (i.bytes : Int) > 2 ^ 48) := by rw [g2]; simp only [show (2 : Int) ^ 48 = 281474976710656 from rfl]; omega
  unfold Builtin.append_
  simp only [List.getElem?_toArray, List.getElem?_cons_zero, List.getElem?_cons_succ, Sem.run_bind, run_underlying hu, run_underlying hx, Result.andThen_ok, run_sizeOf' ht, Sem.run_pure, asInt, asIntOf, wl, g1, if_true, hl0, hl1, if_false, appBack, Bool.not_true, Bool.false_eq_true, true_or]
  first | rfl | (congr 1; done) | (split <;> rfl)
theorem notInt (d : TypeDesc) (h : ∀ k, d ≠ .int k) : (match d with | .int _ => true | _ => false) = false := by
  cases d <;> first | rfl | exact absurd rfl (h _)
theorem append_src {P : Program} {w : World} {st xt ty e : TypeId} {base : Option Addr} {sLen sCap sz n : Nat} {a : Bool} {x : Value} {d : TypeDesc} (hu : P.underlying st = some (.slice e)) (ht : tk P e = some (a, sz))
    (hx : P.underlying xt = some d) (hd : ∀ k, d ≠ .int k) (hn : (Builtin.lenOf x).run P w = .ok n w) :
    (Builtin.append_ #[st, xt] ty #[.slice base sLen sCap, x]).run P w =
      (appBack e sz false n (Builtin.firstCells sz n x) (.slice base sLen sCap) x base sLen sCap).run P w := by
  have hd' := notInt d hd
  unfold Builtin.append_
  simp only [List.getElem?_toArray, List.getElem?_cons_zero, List.getElem?_cons_succ, Sem.run_bind, run_underlying hu, run_underlying hx, Result.andThen_ok, run_sizeOf' ht, Sem.run_pure, hd', Bool.false_eq_true, if_false, hn, appBack, Bool.not_false, if_true]
  first | rfl | (congr 1; done) | (split <;> rfl)


/-- What append does, once it is told what is appended. -/
theorem appBack_ends {P : Program} {w : World} {m : Heap} {e : TypeId} {sz by' n : Nat} {a zeros : Bool} {app : Sem (Array Value)} {s : AVal} {x' : Value} {base : Option Addr} {sLen sCap : Nat} {ys : List AVal} {K : AVal → Heap → Prop}
    (hs : Sat m w) (ht : tk P e = some (a, sz)) (hb : eb P e = some by') (hby : 0 < by') (hz : zl P e = some sz) (hsv : VRel m w s (.slice base sLen sCap)) (hlen : ys.length = n * sz) (hfl : ys.all AVal.flat = true)
    (happ : ∀ w1, Sat m w1 → Ext m w m w1 → ∃ zs : Array Value, app.run P w1 = .ok zs w1 ∧ zs.size = n * sz ∧ ∀ i, i < n * sz → VRel m w1 (ys.getD i .undef) (zs.getD i Go.undef))
    (hK : appTo sz by' n ys s m K) :
    Ends P (appBack e sz zeros n app (.slice base sLen sCap) x' base sLen sCap) w m K := by
  obtain ⟨z, hz, hzs⟩ := Option.map_eq_some_iff.1 hz
  have hgrow : ∀ (os : List AVal), sCap < sLen + n → (sLen + n) * by' ≤ 1099511627776 → os.length = sLen * sz →
      (∀ w1, Sat m w1 → Ext m w m w1 → ∃ zs : Array Value, (Builtin.firstCells sz sLen (.slice base sLen sCap)).run P w1 = .ok zs w1 ∧ zs.size = sLen * sz ∧ ∀ i, i < sLen * sz → VRel m w1 (os.getD i .undef) (zs.getD i Go.undef)) →
      (∀ b' cap', m b' = none → sLen + n ≤ cap' → K (.slice b' 0 (sLen + n) cap') (hupd m b' (.cells (os ++ ys) (cap' * sz)))) →
      Ends P (appBack e sz zeros n app (.slice base sLen sCap) x' base sLen sCap) w m K := by
    intro os hcap hlim hos hold hk
    obtain ⟨i, g1, g2⟩ := run_eb hb w
    have hcap' : ¬ sLen + n ≤ sCap := by omega
    have hneed : sLen + n ≤ 1099511627776 := by
      have := Nat.le_mul_of_pos_right (sLen + n) hby; omega
    have hmax : IntKind.i64.max = 9223372036854775807 := by decide
    have h1 : ¬ (((sLen + n : Nat) : Int) > IntKind.i64.max ∧ (zeros = true ∨ i.bytes = 0)) := by rw [hmax]; omega
    have h2 : ¬ (Builtin.nextslicecap (sLen + n) sCap * i.bytes > 2 ^ 48) := by
      have q0 : 0 < sLen + n := by omega
      rw [g2]
      simp only [show (2 : Nat) ^ 48 = 281474976710656 from rfl]
      generalize sLen + n = S at *
      have q1 := nextslicecap_le S sCap hcap
      have q2 : Builtin.nextslicecap S sCap * by' ≤ (2 * S + 192) * by' := Nat.mul_le_mul_right _ q1
      have q3 : by' ≤ S * by' := Nat.le_mul_of_pos_left _ q0
      rw [Nat.add_mul, Nat.mul_assoc] at q2
      omega
    obtain ⟨d1, d2⟩ := draw_step hs
    obtain ⟨newCap, hnc, hcut⟩ : ∃ newCap, sLen + n ≤ newCap ∧ (choose (.appendCap (sLen + n) sCap e)).run P w = .ok newCap w.drew := by
      refine ⟨Question.cut (.appendCap (sLen + n) sCap e) (w.tape w.drawn (.appendCap (sLen + n) sCap e)), by simp [Question.cut], ?_⟩
      simp [Question.forced]
    obtain ⟨olds, o1, o2, o3⟩ := hold w.drew d1 d2
    obtain ⟨news, n1, n2, n3⟩ := happ w.drew d1 d2
    obtain ⟨zv, z1, z2, z3⟩ := run_zc hz w.drew
    obtain ⟨i', g1', g2'⟩ := run_eb hb w.drew
    let rest := Builtin.zeroCells zv.cells (newCap - (sLen + n))
    have hrun : (appBack e sz zeros n app (.slice base sLen sCap) x' base sLen sCap).run P w = .ok (.slice (some ⟨w.drew.heap.size, 0, none⟩) (sLen + n) newCap) (w.drew.alloc (.cells (olds ++ news ++ rest) e)) := by
      unfold appBack
      simp only [hcap', if_false, Sem.run_bind, g1, Result.andThen_ok, h1, h2, hcut, g1', run_askRoom, o1, n1, z1, newRow, run_newObj, Sem.run_pure, rest]
      rfl
    obtain ⟨k1, k2⟩ := alloc_step d1 (.cells (olds ++ news ++ rest) e) (.cells (os ++ ys) (newCap * sz)) (fun m' w' ee => by
      refine ⟨_, e, rfl, ?_, ?_, fun j hj => ?_⟩
      · simp [o2, n2, rest, Builtin.zeroCells, ← z2, hzs]
        rw [← Nat.add_mul, ← Nat.add_mul]; congr 1; omega
      · simp [hos, hlen]; rw [← Nat.add_mul]; exact Nat.mul_le_mul_right _ hnc
      · simp only [List.length_append, hos, hlen] at hj
        by_cases hj1 : j < sLen * sz
        · have e1 : (os ++ ys).getD j .undef = os.getD j .undef := by
            simp only [List.getD_eq_getElem?_getD]; rw [List.getElem?_append_left (by omega)]
          have e2 : (olds ++ news ++ rest).getD j Go.undef = olds.getD j Go.undef := by
            simp only [Array.getD_eq_getD_getElem?]
            rw [Array.getElem?_append_left (by simp; omega), Array.getElem?_append_left (by omega)]
          rw [e1, e2]; exact (o3 j hj1).ext ee
        · have e1 : (os ++ ys).getD j .undef = ys.getD (j - sLen * sz) .undef := by
            simp only [List.getD_eq_getElem?_getD]; rw [List.getElem?_append_right (by omega), hos]
          have e2 : (olds ++ news ++ rest).getD j Go.undef = news.getD (j - sLen * sz) Go.undef := by
            simp only [Array.getD_eq_getD_getElem?]
            rw [Array.getElem?_append_left (by simp; omega), Array.getElem?_append_right (by omega), o2]
          rw [e1, e2]; exact (n3 _ (by omega)).ext ee)
    exact ⟨_, _, _, _, hrun, hk _ newCap d1.fresh hnc, .slice _ _ _ _, k1, d2.trans k2⟩
  cases s with
  | nils =>
    cases hsv
    simp only [appTo] at hK
    obtain ⟨hk0, hk1⟩ := hK
    by_cases hn : n = 0
    · subst hn
      obtain ⟨zs, n1, n2, n3⟩ := happ w hs (Ext.refl _ _)
      refine ⟨.slice none 0 0, w, .nils, m, ?_, hk0 rfl, .nils, hs, Ext.refl _ _⟩
      unfold appBack
      simp [n1]
    · obtain ⟨q1, q2⟩ := hk1 (by omega)
      refine hgrow [] (by omega) (by simpa using q1) (by simp) (fun w1 _ _ => ⟨#[], by simp [Builtin.firstCells], by simp, fun i hi => by simp at hi⟩) ?_
      intro b' cap' hb' hc'
      simpa using q2 b' cap' hb' (by omega)
  | slice b o len cap =>
    cases hsv
    simp only [appTo] at hK
    split at hK
    · rename_i cs N hbm
      obtain ⟨⟨f1, f2⟩, hk0, hk1⟩ := hK
      by_cases hle : sLen + n ≤ sCap
      · obtain ⟨zs, n1, n2, n3⟩ := happ w hs (Ext.refl _ _)
        have hcapn : (sLen + n) * sz ≤ sCap * sz := Nat.mul_le_mul_right _ hle
        rw [Nat.add_mul] at hcapn
        obtain ⟨w', r1, r2, r3⟩ := store_stepN (P := P) hs hbm (o + sLen * sz) ys zs.toList (by simp; omega)
          (fun i hi => by
            have := n3 i (by omega)
            simpa [Array.getD_eq_getD_getElem?, List.getD_eq_getElem?_getD] using this) hfl f1 (by omega)
        refine ⟨.slice (some ⟨b, o, none⟩) (sLen + n) sCap, w', _, _, ?_, hk0 hle, .slice _ _ _ _, r2, r3⟩
        unfold appBack
        simp only [hle, if_true, Sem.run_bind, n1, Result.andThen_ok, addr_add, r1, Sem.run_pure]
      · obtain ⟨q1, q2⟩ := hk1 (by omega)
        refine hgrow ((cs.drop o).take (sLen * sz)) (by omega) q1 (by simp; omega) (fun w1 s1 e1 => ?_) q2
        obtain ⟨xs, x1, x2, x3⟩ := run_loadCells' (P := P) (m := m) b 0 o (sLen * sz) cs f1 (cells_at (s1 b _ hbm))
        exact ⟨xs, by simpa [Builtin.firstCells] using x1, x2, x3⟩
    · exact hK.elim
  | _ => exact hK.elim

theorem aappend_tells {P : Program} {w : World} {m : Heap} {st xt ty : TypeId} {s x : AVal} {s' x' : Value} (hs : Sat m w) (hsv : VRel m w s s') (hxv : VRel m w x x') :
    Tells P (.eff (aappend P st xt s x)) (Builtin.append_ #[st, xt] ty #[s', x']) w m := by
  intro K hK
  simp only [D.run] at hK
  unfold aappend at hK
  split at hK
  case h_2 => exact hK.elim
  rename_i e hu
  split at hK
  case h_2 => exact hK.elim
  rename_i a sz by' ht hb
  obtain ⟨⟨hby, hxt, hz⟩, hK⟩ := hK
  obtain ⟨dx, hdx⟩ := Option.isSome_iff_exists.1 hxt
  unfold appSrc at hK
  -- the slice that is appended to
  have hsl : ∀ n (ys : List AVal), appTo sz by' n ys s m K → ∃ base sLen sCap, s' = .slice base sLen sCap := by
    intro n ys h
    cases s with
    | nils => cases hsv; exact ⟨_, _, _, rfl⟩
    | slice => cases hsv; exact ⟨_, _, _, rfl⟩
    | _ => exact h.elim
  split at hK
  · rename_i hint
    have hdk : ∃ k, P.underlying xt = some (.int k) := by
      unfold isInt at hint
      split at hint
      · rename_i k hk; exact ⟨k, hk⟩
      · simp at hint
    obtain ⟨k, hk⟩ := hdk
    cases x with
    | int k' l =>
      simp only at hK
      split at hK
      · rename_i z hzz
        obtain ⟨l0, l1, l2, hzl, hfl, hK⟩ := hK
        obtain ⟨base, sLen, sCap, rfl⟩ := hsl _ _ hK
        cases hxv
        have hends := appBack_ends (P := P) (w := w) (m := m) (n := l.toNat) (zeros := true) (x' := .int k' l) (K := K) (app := (if l.toNat * sz = 0 then pure #[] else do pure (Builtin.zeroCells (← zeroValue e).cells l.toNat)))
          hs ht hb hby hz hsv (by rw [rep_length, hzl]) hfl (fun w1 s1 e1 => ?_) hK
        · obtain ⟨x, w', v, m', r, q⟩ := hends
          refine ⟨x, w', v, m', ?_, q⟩
          rw [append_zeros hu ht hk hb l0 (by omega) (by omega)]
          exact r
        · obtain ⟨zv, z1, z2, z3⟩ := run_zc hzz w1
          by_cases h0 : l.toNat * sz = 0
          · exact ⟨#[], by simp [h0], by simp [h0], fun i hi => by omega⟩
          · refine ⟨Builtin.zeroCells zv.cells l.toNat, by simp only [h0, if_false, Sem.run_bind, z1, Result.andThen_ok, Sem.run_pure], by simp [Builtin.zeroCells, ← z2, hzl], fun i hi => ?_⟩
            have hsz : 0 < z.length := by
              rcases Nat.eq_zero_or_pos z.length with h' | h'
              · rw [← hzl, h'] at h0; simp at h0
              · exact h'
            rw [rep_getD z _ _ (by rw [hzl]; exact hi)]
            have hm := Nat.mod_lt i hsz
            have := z3 m w1 (i % z.length) hm
            have e2 : (Builtin.zeroCells zv.cells l.toNat).getD i Go.undef = zv.cells.getD (i % zv.cells.size) Go.undef := by
              have hi' : i < l.toNat * zv.cells.size := by rw [← z2, hzl]; exact hi
              have hm' : i % zv.cells.size < zv.cells.size := by rw [← z2]; exact hm
              simp [Builtin.zeroCells, Array.getD_eq_getD_getElem?, hi', hm']
            rw [e2, ← z2]; exact this
      · exact hK.elim
    | _ => exact hK.elim
  · rename_i hint
    have hdk : ∀ k, dx ≠ .int k := by
      rintro k rfl
      unfold isInt at hint
      rw [hdx] at hint
      exact hint rfl
    obtain ⟨n, ys, ⟨hfl, hK⟩, hsame, hlen, hn, hcells⟩ := src_sound (P := P) hs hxv hK
    obtain ⟨base, sLen, sCap, rfl⟩ := hsl _ _ hK
    have hends := appBack_ends (P := P) (w := w) (m := m) (n := n) (zeros := false) (x' := x') (K := K) (app := Builtin.firstCells sz n x') hs ht hb hby hz hsv hlen hfl (fun w1 s1 e1 => ?_) hK
    · obtain ⟨x, w', v, m', r, q⟩ := hends
      refine ⟨x, w', v, m', ?_, q⟩
      rw [append_src hu ht hdx hdk hn]
      exact r
    · obtain ⟨n', ys', ⟨rfl, rfl⟩, _, _, _, hc⟩ := src_sound (P := P) s1 (hxv.ext e1) hsame
      exact hc n' (Nat.le_refl _)

end Go.Proofs.YtdckcophbmnjjaaGreatDoor.Ab
namespace Go.Proofs.YtdckcophbmnjjaaGreatDoor.Ab
open Go

def acopy (P : Program) (dt : TypeId) (d x : AVal) (m : Heap) (K : AVal → Heap → Prop) : Prop :=
  match P.underlying dt with
  | some (.slice e) => match tk P e with
    | some (_, sz) => src sz m x fun k ys => match d with
      | .nils => K (.int .i64 0) m
      | .slice b o len _ => match m b with
        | some (.cells cs N) => o + (min k len) * sz ≤ cs.length ∧ ys.all AVal.flat = true ∧ K (.int .i64 (min k len : Nat)) (hupd m b (.cells (splice cs o (ys.take ((min k len) * sz))) N))
        | _ => False
      | _ => False
    | none => False
  | _ => False
theorem acopy_tells {P : Program} {w : World} {m : Heap} {dt st ty : TypeId} {d x : AVal} {d' x' : Value} (hs : Sat m w) (hd : VRel m w d d') (hx : VRel m w x x') :
    Tells P (.eff (acopy P dt d x)) (Builtin.copy_ #[dt, st] ty #[d', x']) w m := by
  intro K hK
  simp only [D.run] at hK
  unfold acopy at hK
  split at hK
  case h_2 => exact hK.elim
  rename_i e hu
  split at hK
  case h_2 => exact hK.elim
  rename_i a sz ht
  obtain ⟨n, ys, hK, hsame, hlen, hn, hc⟩ := src_sound (P := P) hs hx hK
  cases d with
  | nils =>
    cases hd
    obtain ⟨zs, z1, z2, z3⟩ := hc 0 (by omega)
    refine ⟨.int .i64 0, w, .int .i64 0, m, ?_, hK, .int _ _, hs, Ext.refl _ _⟩
    have hm : Nat.min n 0 = 0 := by simp
    simp [Builtin.copy_, run_underlying hu, hn, run_sizeOf' ht, hm, z1, goInt]
  | slice b o len cap =>
    cases hd
    simp only at hK
    split at hK
    · rename_i cs N hb
      obtain ⟨f1, f2, hK⟩ := hK
      obtain ⟨zs, z1, z2, z3⟩ := hc (min n len) (Nat.min_le_left _ _)
      have hle : (min n len) * sz ≤ n * sz := Nat.mul_le_mul_right _ (Nat.min_le_left _ _)
      have hyl : (ys.take ((min n len) * sz)).length = (min n len) * sz := by simp; omega
      obtain ⟨w', r1, r2, r3⟩ := store_step (P := P) hs hb o (ys.take ((min n len) * sz)) zs.toList (by rw [hyl]; simp [z2])
        (fun i hi => by
          rw [hyl] at hi
          have := z3 i hi
          have hi2 : i < ys.length := by omega
          simpa [Array.getD_eq_getD_getElem?, List.getD_eq_getElem?_getD, List.getElem?_take, hi] using this)
        (List.all_eq_true.2 fun v hv => List.all_eq_true.1 f2 v (List.mem_of_mem_take hv)) (by rw [hyl]; exact f1)
      refine ⟨.int .i64 (min n len : Nat), w', _, _, ?_, hK, .int _ _, r2, r3⟩
      have hm : Nat.min n len = min n len := rfl
      simp only [Builtin.copy_, List.getElem?_toArray, List.getElem?_cons_zero, List.getElem?_cons_succ, Sem.run_bind, run_underlying hu, Result.andThen_ok, hn, run_sizeOf' ht, hm, z1, r1, Sem.run_pure, goInt]
    · exact hK.elim
  | _ => exact hK.elim

def aclear (P : Program) (t : TypeId) : AVal → D
  | .nils => .pure True (.tuple [])
  | .slice b o n _ => match P.underlying t with
    | some (.slice e) => match zc P e with
      | some z => .write b (fun x => match x with | .cells cs _ => o + n * z.length ≤ cs.length ∧ z.all AVal.flat = true ∧ 0 < z.length | _ => False) (fun x => match x with | .cells cs N => .cells (splice cs o (rep n z)) N | y => y) (.tuple [])
      | none => .fail
    | _ => .fail
  | _ => .fail
theorem rep_all (p : AVal → Bool) (n : Nat) (z : List AVal) (h : z.all p = true) : (rep n z).all p = true := by
  rw [List.all_eq_true] at h ⊢
  intro v hv
  simp only [rep, List.mem_flatten, List.mem_replicate] at hv
  obtain ⟨l, ⟨_, rfl⟩, hv⟩ := hv
  exact h v hv
theorem hupd_same {m : Heap} {b : Nat} {x : ABlk} (h : m b = some x) : hupd m b x = m := by
  funext i; simp only [hupd]; split
  · rename_i hi; subst hi; exact h.symm
  · rfl
theorem aclear_tells {P : Program} {w : World} {m : Heap} {t ty : TypeId} {x : AVal} {x' : Value} (hs : Sat m w) (hx : VRel m w x x') (ht : (P.underlying t).isSome = true) : Tells P (aclear P t x) (Builtin.clear_ #[t] ty #[x']) w m := by
  obtain ⟨d, hd⟩ := Option.isSome_iff_exists.1 ht
  unfold aclear
  split
  · cases hx
    exact tells_pure hs (fun _ => ⟨.tuple #[], by simp [Builtin.clear_, run_underlying hd], .tuple [] #[] rfl (fun i hi => by simp at hi)⟩)
  · rename_i b o n cap
    split
    · rename_i e hu
      split
      · rename_i z hz
        intro K hK
        simp only [D.run] at hK
        split at hK
        · rename_i y hy
          cases y with
          | cells cs N =>
            obtain ⟨⟨f1, f2, f3⟩, hK⟩ := hK
            cases hx
            obtain ⟨zv, z1, z2, z3⟩ := run_zc hz w
            by_cases hn : n = 0
            · subst hn
              have e0 : splice cs o (rep 0 z) = cs := by simp [rep, splice]
              simp only [e0] at hK
              rw [hupd_same hy] at hK
              refine ⟨.tuple #[], w, _, _, ?_, hK, .tuple [] #[] rfl (fun i hi => by simp at hi), hs, Ext.refl _ _⟩
              simp [Builtin.clear_, run_underlying hd]
            · have hl : (rep n z).length = (Builtin.zeroCells zv.cells n).toList.length := by simp [rep_length, Builtin.zeroCells, z2]
              obtain ⟨w', r1, r2, r3⟩ := store_step (P := P) hs hy o (rep n z) (Builtin.zeroCells zv.cells n).toList hl
                (fun i hi => by
                  rw [rep_length] at hi
                  rw [rep_getD z _ _ hi]
                  have hm := Nat.mod_lt i f3
                  have := z3 m w (i % z.length) hm
                  have hi' : i < n * zv.cells.size := by rw [← z2]; exact hi
                  have hm' : i % zv.cells.size < zv.cells.size := by rw [← z2]; exact hm
                  have e2 : (Builtin.zeroCells zv.cells n).toList.getD i Go.undef = zv.cells.getD (i % zv.cells.size) Go.undef := by
                    simp [Builtin.zeroCells, List.getD_eq_getElem?_getD, Array.getD_eq_getD_getElem?, hi', hm']
                  rw [e2, ← z2]; exact this) (rep_all _ _ _ f2) (by rw [rep_length]; exact f1)
              refine ⟨.tuple #[], w', _, _, ?_, hK, .tuple [] #[] rfl (fun i hi => by simp at hi), r2, r3⟩
              unfold Builtin.clear_
              obtain ⟨k, rfl⟩ : ∃ k, n = k + 1 := ⟨n - 1, by omega⟩
              simp only [List.getElem?_toArray, List.getElem?_cons_zero, Sem.run_bind, run_underlying hu, Result.andThen_ok, z1, r1, Sem.run_pure]
          | map es bs cl => exact hK.1.elim
          | obj o => exact hK.1.elim
          | loop => exact hK.1.elim
        · exact hK.elim
      · exact tells_fail
    · exact tells_fail
  · exact tells_fail

def acap (P : Program) (t : TypeId) : AVal → D
  | .slice _ _ _ c => match P.underlying t with
    | some (.slice _) => .pure True (.int .i64 c)
    | _ => .fail
  | .nils => match P.underlying t with
    | some (.slice _) => .pure True (.int .i64 0)
    | _ => .fail
  | _ => .fail
theorem acap_tells {P : Program} {w : World} {m : Heap} {t ty : TypeId} {x : AVal} {x' : Value} (hs : Sat m w) (hx : VRel m w x x') : Tells P (acap P t x) (Builtin.cap_ #[t] ty #[x']) w m := by
  unfold acap
  split
  · split
    · rename_i e hu
      cases hx; exact tells_pure hs (fun _ => ⟨.int .i64 _, by simp [Builtin.cap_, run_underlying hu, goInt], .int _ _⟩)
    · exact tells_fail
  · split
    · rename_i e hu
      cases hx; exact tells_pure hs (fun _ => ⟨.int .i64 _, by simp [Builtin.cap_, run_underlying hu, goInt], .int _ _⟩)
    · exact tells_fail
  · exact tells_fail

def aiface (P : Program) (t : TypeId) (v : AVal) : D := match P.underlying t with
  | some (.interface _) => .fail
  | some _ => .pure True (.iface t v)
  | none => .fail
theorem aiface_tells {P : Program} {w : World} {m : Heap} {t : TypeId} {x : AVal} {x' : Value} (hs : Sat m w) (hx : VRel m w x x') : Tells P (aiface P t x) (Instr.makeInterface t x') w m := by
  unfold aiface
  split
  · exact tells_fail
  · rename_i d hd hu
    refine tells_pure hs (fun _ => ⟨.iface t x', ?_, .iface _ _ _ hx⟩)
    simp only [Instr.makeInterface, Sem.run_bind, run_underlying hu, Result.andThen_ok]
    cases d <;> first | rfl | exact absurd rfl (hd _)
  · exact tells_fail

/-- A type assertion to a type that is no interface. -/
def aassert (P : Program) (asserted : TypeId) (commaOk : Bool) : AVal → D
  | .iface t v => match P.underlying asserted with
    | some (.interface _) => .fail
    | some _ => .pure (t = asserted) (if commaOk then .tuple [v, .bool true] else v)
    | none => .fail
  | _ => .fail
theorem aassert_tells {P : Program} {w : World} {m : Heap} {xt asserted : TypeId} {ok : Bool} {x : AVal} {x' : Value} (hs : Sat m w) (hx : VRel m w x x') : Tells P (aassert P asserted ok x) (Instr.typeAssert x' xt asserted ok) w m := by
  unfold aassert
  split
  · split
    · exact tells_fail
    · rename_i t v _ d hd hu
      refine tells_pure hs (fun h => ?_)
      subst h
      cases hx with
      | iface _ _ y hv =>
        refine ⟨if ok then .tuple #[y, .bool true] else y, ?_, ?_⟩
        · simp only [Instr.typeAssert, Sem.run_bind, run_underlying hu, Result.andThen_ok]
          cases d <;> first | (simp; done) | exact absurd rfl (hd _)
        · cases ok
          · exact hv
          · refine .tuple _ _ rfl (fun i hi => ?_)
            match i, hi with
            | 0, _ => exact hv
            | 1, _ => exact .bool true
    · exact tells_fail
  · exact tells_fail

end Go.Proofs.YtdckcophbmnjjaaGreatDoor.Ab
namespace Go.Proofs.YtdckcophbmnjjaaGreatDoor.Ab
open Go Go.MapKept

/-- A type's zero value. -/
def zv (P : Program) (t : TypeId) : Option AVal := match P.info? t with
  | some i => match i.zero with
    | some v => some (ofValue v)
    | none => none
  | none => none
theorem run_zv {P : Program} {t : TypeId} {z : AVal} (h : zv P t = some z) (w : World) : ∃ v, (zeroValue t).run P w = .ok v w ∧ ∀ m w', VRel m w' z v := by
  unfold zv at h
  split at h
  · rename_i i hi
    split at h
    · rename_i v hv
      simp only [Option.some.injEq] at h
      subst h
      exact ⟨v, by unfold zeroValue typeInfo; simp [Sem.run_bind, hi, hv], fun m w' => ofValue_rel m w' v⟩
    · simp at h
  · simp at h

/-- The place of a key. -/
def kidx (es : List (Int × AVal)) (a : Int) : Option Nat := es.findIdx? fun e => e.1 == a
/-- What lies at a key. -/
def mget (es : List (Int × AVal)) (a : Int) : Option AVal := (kidx es a).map fun i => (es.getD i (0, .undef)).2
/-- A map in which something is laid at a key. -/
def mput (es : List (Int × AVal)) (bs : List Nat) (cl : Nat) (a : Int) (v : AVal) : ABlk := match kidx es a with
  | some i => .map (es.set i (a, v)) bs cl
  | none => .map (es ++ [(a, v)]) (bs ++ [cl]) (cl + 1)
def lres (ok : Bool) (z : AVal) : Option AVal → AVal
  | some v => if ok then .tuple [v, .bool true] else v
  | none => if ok then .tuple [z, .bool false] else z

theorem kidx_some {es : List (Int × AVal)} {a : Int} {i : Nat} (h : kidx es a = some i) : i < es.length ∧ (es.getD i (0, .undef)).1 = a := by
  unfold kidx at h
  rw [List.findIdx?_eq_some_iff_getElem] at h
  obtain ⟨h1, h2, -⟩ := h
  refine ⟨h1, ?_⟩
  simp only [beq_iff_eq] at h2
  simp [List.getD_eq_getElem?_getD, h1, h2]
theorem kidx_none {es : List (Int × AVal)} {a : Int} (h : kidx es a = none) : ∀ e ∈ es, e.1 ≠ a := by
  unfold kidx at h
  rw [List.findIdx?_eq_none_iff] at h
  intro e he
  simpa using h e he
theorem findNow_rel {kk : IntKind} (a : Int) : ∀ (es : List (Int × AVal)) (l : List MapEntry) (n : Nat), es.length = l.length → (∀ i, i < es.length → (l.getD i default).key = .int .i64 (es.getD i (0, .undef)).1) →
    Instr.findNow (.int kk) (.int .i64 a) l n = some ((kidx es a).map fun i => (n + i, (l.getD i default).val))
  | [], [], n, _, _ => rfl
  | e :: es, x :: l, n, h, hk => by
    have h0 := hk 0 (by simp)
    simp only [List.getD_cons_zero] at h0
    unfold Instr.findNow
    rw [h0]
    have hk' : kidx (e :: es) a = if e.1 == a then some 0 else (kidx es a).map (· + 1) := by
      unfold kidx; rw [List.findIdx?_cons]
    rw [hk']
    by_cases he : e.1 = a
    · have : (e.1 == a) = true := by simpa using he
      simp [Instr.sameNow, he]
    · have e1 : (e.1 == a) = false := by simpa using he
      have e2 : (a == e.1) = false := by simpa using fun h => he h.symm
      simp only [Instr.sameNow, if_true, e2, e1, Bool.false_eq_true, if_false]
      rw [findNow_rel a es l (n + 1) (by simpa using h) (fun i hi => by simpa using hk (i + 1) (by simpa using hi))]
      cases kidx es a with
      | none => rfl
      | some i => simp; omega
  | [], x :: l, n, h, _ => by simp at h
  | e :: es, [], n, h, _ => by simp at h
theorem run_setObj {P : Program} {w : World} {r : Nat} {o : Obj} (o' : Obj) (h : w.heap[r]? = some o) (hn : ∀ c e f, o ≠ .cells c e f) : (setObj r o').run P w = .ok () (w.putObj r o') := by
  cases o <;> first | exact absurd rfl (hn _ _ _) | simp [setObj, Sem.run, h, World.putObj]
theorem run_getObj {P : Program} {w : World} {r : Nat} {o : Obj} (h : w.heap[r]? = some o) (hn : ∀ c e f, o ≠ .cells c e f) : (getObj r).run P w = .ok o w := by
  cases o <;> first | exact absurd rfl (hn _ _ _) | simp [getObj, Sem.run, h]
theorem put_ends {m : Heap} {w : World} (hs : Sat m w) {p : Nat} {x y : ABlk} {o : Obj} (hp : m p = some x) (hb : ∀ m' w', Ext m w m' w' → BRel m' w' y (some o)) :
    Sat (hupd m p y) (w.putObj p o) ∧ Ext m w (hupd m p y) (w.putObj p o) := by
  have hlt := hs.lt hp
  refine write_step hs hp (by simp [World.putObj]) rfl rfl ⟨rfl, Nat.le_refl _⟩ (fun b hne => World.putObj_heap_other hne) ?_
  intro m' w' e
  rw [World.putObj_heap_same hlt]
  exact hb m' w' e

/-! ### make -/
def amakeMap : Option AVal → D
  | none => .alloc True (.map [] [] 0) fun b => .map b
  | some (.int _ _) => .alloc True (.map [] [] 0) fun b => .map b
  | _ => .fail
theorem amakeMap_tells {P : Program} {w : World} {m : Heap} {t k e : TypeId} (hu : P.underlying t = some (.map k e)) {r : Option AVal} {r' : Option Value} (hs : Sat m w) (hr : match r, r' with
    | none, none => True
    | some v, some x => VRel m w v x
    | _, _ => False) : Tells P (amakeMap r) (Instr.makeMap t r') w m := by
  have hb : ∀ m' w', Ext m w m' w' → BRel m' w' (.map [] [] 0) (some (.map #[] 0)) := fun _ _ _ => ⟨#[], rfl, rfl, by simp, .nil, rfl, .nil, fun i hi => by simp at hi⟩
  unfold amakeMap
  split
  · cases r' with
    | none => exact tells_alloc hs fun _ => ⟨.map #[] 0, _, by simp [Instr.makeMap, newObj, Sem.run, Result.andThen], hb, .map _⟩
    | some x => exact hr.elim
  · cases r' with
    | none => exact hr.elim
    | some x =>
      cases hr
      exact tells_alloc hs fun _ => ⟨.map #[] 0, .map (some w.heap.size), by simp [Instr.makeMap, newObj, Sem.run, Result.andThen, run_underlying hu, asInt, asIntOf], hb, .map _⟩
  · exact tells_fail

/-! ### look up -/
def alookup (P : Program) (t : TypeId) (ok : Bool) (x k : AVal) : D := match P.underlying t with
  | some (.map kt et) => match P.underlying kt, zv P et, k with
    | some (.int .i64), some z, .int .i64 a => match x with
      | .nilmap => .pure True (lres ok z none)
      | .map b => .read b (fun x => match x with | .map _ _ _ => True | _ => False) (fun x => match x with | .map es _ _ => lres ok z (mget es a) | _ => .undef)
      | _ => .fail
    | _, _, _ => .fail
  | _ => .fail
theorem lres_rel {m : Heap} {w : World} {ok : Bool} {z v : AVal} {z' v' : Value} (hz : VRel m w z z') (hv : VRel m w v v') :
    VRel m w (lres ok z none) (if ok then .tuple #[z', .bool false] else z') ∧ VRel m w (lres ok z (some v)) (if ok then .tuple #[v', .bool true] else v') := by
  cases ok with
  | true =>
    refine ⟨.tuple _ _ rfl fun i hi => ?_, .tuple _ _ rfl fun i hi => ?_⟩
    · match i, hi with
      | 0, _ => exact hz
      | 1, _ => exact .bool _
    · match i, hi with
      | 0, _ => exact hv
      | 1, _ => exact .bool _
  | false => exact ⟨hz, hv⟩
theorem alookup_tells {P : Program} {w : World} {m : Heap} {t : TypeId} {ok : Bool} {x k : AVal} {x' k' : Value} (hs : Sat m w) (hx : VRel m w x x') (hk : VRel m w k k') : Tells P (alookup P t ok x k) (Instr.lookup t x' k' ok) w m := by
  unfold alookup
  split
  case h_2 => exact tells_fail
  rename_i kt et hu
  split
  case h_2 => exact tells_fail
  rename_i z a hkt hz
  cases hk
  obtain ⟨z', z1, z2⟩ := run_zv hz w
  have hck : ∀ e, (Instr.checkKey e 10000 kt (.int .i64 a)).run P w = .ok () w := fun e => run_checkKey hkt (k := .int .i64 a) (show IsKey (.int .i64) (.int .i64 a) from rfl) e 9999
  split
  · cases hx
    refine tells_pure hs fun _ => ⟨if ok then .tuple #[z', .bool false] else z', ?_, (lres_rel (z2 m w) (z2 m w)).1⟩
    have hf : (Instr.findKey kt (.int .i64 a) []).run P w = .ok none w := run_findKey hkt rfl
    simp [Instr.lookup, Sem.run_bind, run_underlying hu, Result.andThen_ok, hck, hf, z1]
  · rename_i b
    cases hx
    refine tells_read hs fun y hy hc => ?_
    cases y with
    | map es bs cl =>
      obtain ⟨ents, h1, h2, h3, h4, h5, h6, h7⟩ := hs b _ hy
      have hnow := findNow_rel (kk := .i64) a es ents.toList 0 (by simpa using h5.symm) (fun i hi => by have := (h7 i hi).1; simpa [Array.getD_eq_getD_getElem?, List.getD_eq_getElem?_getD] using this)
      have hf : (Instr.findKey kt (.int .i64 a) ents.toList).run P w = .ok _ w := run_findKey hkt hnow
      unfold mget
      cases hi : kidx es a with
      | none =>
        refine ⟨if ok then .tuple #[z', .bool false] else z', ?_, by show VRel m w (lres ok z (Option.map _ (kidx es a))) _; rw [hi]; exact (lres_rel (z2 m w) (z2 m w)).1⟩
        rw [hi] at hf
        simp [Instr.lookup, Sem.run_bind, run_underlying hu, Result.andThen_ok, run_getObj h1 (by simp), hck, hf, z1]
      | some i =>
        have hil := kidx_some hi
        have hv := (h7 i hil.1).2
        refine ⟨if ok then .tuple #[(ents.getD i default).val, .bool true] else (ents.getD i default).val, ?_, by show VRel m w (lres ok z (Option.map _ (kidx es a))) _; rw [hi]; exact (lres_rel (z2 m w) hv).2⟩
        rw [hi] at hf
        simp [Instr.lookup, Sem.run_bind, run_underlying hu, Result.andThen_ok, run_getObj h1 (by simp), hck, hf, Array.getD_eq_getD_getElem?, List.getD_eq_getElem?_getD]
    | cells => exact hc.elim
    | obj => exact hc.elim
    | loop => exact hc.elim
  · exact tells_fail

/-! ### lay in -/
def amapUpdate (P : Program) (t : TypeId) (x k v : AVal) : D := match P.underlying t with
  | some (.map kt _) => match P.underlying kt, k with
    | some (.int .i64), .int .i64 a => match x with
      | .map b => .write b (fun x => match x with | .map _ _ _ => True | _ => False) (fun x => match x with | .map es bs cl => mput es bs cl a v | y => y) (.tuple [])
      | _ => .fail
    | _, _ => .fail
  | _ => .fail
theorem getD_set' {α : Type} (l : List α) (i j : Nat) (x d : α) (h : i < l.length) : (l.set i x).getD j d = if j = i then x else l.getD j d := by
  split
  · rename_i e; subst e; simp [List.getD_eq_getElem?_getD, h]
  · rename_i e; rw [List.getD_eq_getElem?_getD, List.getElem?_set_ne (by omega), List.getD_eq_getElem?_getD]
theorem amapUpdate_tells {P : Program} {w : World} {m : Heap} {t : TypeId} {x k v : AVal} {x' k' v' : Value} (hs : Sat m w) (hx : VRel m w x x') (hk : VRel m w k k') (hv : VRel m w v v') :
    Tells P (amapUpdate P t x k v) (do Instr.mapUpdate t x' k' v'; pure Go.undef) w m := by
  unfold amapUpdate
  split
  case h_2 => exact tells_fail
  rename_i kt et hu
  split
  case h_2 => exact tells_fail
  rename_i a hkt
  cases hk
  have hck : ∀ e, (Instr.checkKey e 10000 kt (.int .i64 a)).run P w = .ok () w := fun e => run_checkKey hkt (k := .int .i64 a) (show IsKey (.int .i64) (.int .i64 a) from rfl) e 9999
  split
  case h_2 => exact tells_fail
  rename_i b
  cases hx
  intro K hK
  simp only [D.run] at hK
  split at hK
  case h_2 => exact hK.elim
  rename_i z hz
  cases z with
  | map es bs cl =>
    obtain ⟨-, hK⟩ := hK
    obtain ⟨ents, h1, h2, h3, h4, h5, h6, h7⟩ := hs b _ hz
    have hnow := findNow_rel (kk := .i64) a es ents.toList 0 (by simpa using h5.symm) (fun i hi => by have := (h7 i hi).1; simpa [Array.getD_eq_getD_getElem?, List.getD_eq_getElem?_getD] using this)
    have hf : (Instr.findKey kt (.int .i64 a) ents.toList).run P w = .ok _ w := run_findKey hkt hnow
    cases hi : kidx es a with
    | none =>
      rw [hi] at hf
      obtain ⟨k1, k2⟩ := put_ends (y := mput es bs cl a v) (o := .map (ents.push { key := .int .i64 a, val := v', born := cl }) (cl + 1)) hs hz (fun m' w' e => by
        unfold mput; rw [hi]
        refine ⟨_, rfl, by simp [h2], ?_, ?_, by simp [h5], ?_, ?_⟩
        · intro x hx
          rcases List.mem_append.1 hx with hx | hx
          · have := h3 x hx; omega
          · rw [List.mem_singleton.1 hx]; omega
        · rw [List.nodup_append]
          refine ⟨h4, List.nodup_cons.2 ⟨by simp, .nil⟩, ?_⟩
          intro x hx y hy
          have := h3 x hx
          rw [List.mem_singleton.1 hy]; omega
        · rw [List.map_append, List.nodup_append]
          refine ⟨h6, List.nodup_cons.2 ⟨by simp, .nil⟩, ?_⟩
          intro x hx y hy
          obtain ⟨e0, he0, rfl⟩ := List.mem_map.1 hx
          have hy' : y = a := by simpa using hy
          rw [hy']
          exact kidx_none hi e0 he0
        · intro i hi2
          rw [List.length_append] at hi2
          by_cases hlt : i < es.length
          · have := h7 i hlt
            have hlt2 : i < ents.size := by omega
            have e1 : (ents.push { key := .int .i64 a, val := v', born := cl }).getD i default = ents.getD i default := by
              simp [Array.getD_eq_getD_getElem?, Array.getElem?_push, hlt2, Nat.ne_of_lt hlt2]
            have e2 : (es ++ [(a, v)]).getD i (0, .undef) = es.getD i (0, .undef) := by simp [List.getD_eq_getElem?_getD, List.getElem?_append, hlt]
            rw [e1, e2]
            exact ⟨this.1, this.2.ext e⟩
          · have he : i = ents.size := by simp at hi2; omega
            have e1 : (ents.push { key := .int .i64 a, val := v', born := cl }).getD i default = { key := .int .i64 a, val := v', born := cl } := by
              simp [Array.getD_eq_getD_getElem?, he]
            have e2 : (es ++ [(a, v)]).getD i (0, .undef) = (a, v) := by
              rw [he, h5]; simp [List.getD_eq_getElem?_getD]
            rw [e1, e2]
            exact ⟨rfl, hv.ext e⟩)
      refine ⟨Go.undef, _, .tuple [], _, ?_, hK, .tuple [] #[] rfl (fun i hi => by simp at hi), k1, k2⟩
      simp [Instr.mapUpdate, Sem.run_bind, run_underlying hu, Result.andThen_ok, run_getObj h1 (by simp), hck, hf, run_setObj _ h1 (by simp)]
    | some i =>
      rw [hi] at hf
      have hil := kidx_some hi
      have hil2 : i < ents.size := by omega
      have hkey : (ents.getD i default).key = .int .i64 a := by rw [(h7 i hil.1).1, hil.2]
      have hget : ents[i]? = some (ents.getD i default) := by simp [Array.getD_eq_getD_getElem?, hil2]
      have hks : (Instr.keyThatStays (((ents[i]?).map (·.key)).getD (.int .i64 a)) (.int .i64 a)).run P w = .ok (.int .i64 a) w := by
        rw [hget]
        simp only [Option.map_some, Option.getD_some, hkey]
        simp [Instr.keyThatStays, Instr.sameBits]
      obtain ⟨k1, k2⟩ := put_ends (y := mput es bs cl a v) (o := .map (ents.modify i fun e => { e with key := .int .i64 a, val := v' }) cl) hs hz (fun m' w' e => by
        unfold mput; rw [hi]
        have hborn : (ents.modify i fun e => { e with key := .int .i64 a, val := v' }).toList.map (·.born) = bs := by
          rw [← h2]
          apply List.ext_getElem?
          intro j
          simp only [List.getElem?_map, Array.getElem?_toList, Array.getElem?_modify]
          split
          · rename_i hj; subst hj; cases ents[i]? <;> rfl
          · rfl
        have hkeys : (es.set i (a, v)).map (·.1) = es.map (·.1) := by
          apply List.ext_getElem?
          intro j
          rw [List.getElem?_map, List.getElem?_map, List.getElem?_set]
          split
          · rename_i hj; subst hj
            have := hil.2
            rw [if_pos hil.1]
            simp only [List.getD_eq_getElem?_getD] at this
            rw [List.getElem?_eq_getElem hil.1] at this ⊢
            simp at this ⊢
            exact this.symm
          · rfl
        refine ⟨_, rfl, hborn, h3, h4, by simp [h5], by rw [hkeys]; exact h6, ?_⟩
        intro j hj
        rw [List.length_set] at hj
        rw [getD_set' _ _ _ _ _ hil.1]
        have hj2 : j < ents.size := by omega
        by_cases hji : j = i
        · subst hji
          have e1 : (ents.modify j fun e => { e with key := .int .i64 a, val := v' }).getD j default = { ents.getD j default with key := .int .i64 a, val := v' } := by
            rw [Array.getD_eq_getD_getElem?, Array.getD_eq_getD_getElem?, Array.getElem?_modify, if_pos rfl, Array.getElem?_eq_getElem hj2]; rfl
          rw [e1, if_pos rfl]
          exact ⟨rfl, hv.ext e⟩
        · have e1 : (ents.modify i fun e => { e with key := .int .i64 a, val := v' }).getD j default = ents.getD j default := by
            rw [Array.getD_eq_getD_getElem?, Array.getD_eq_getD_getElem?, Array.getElem?_modify, if_neg (fun h => hji h.symm)]
          rw [e1, if_neg hji]
          exact ⟨(h7 j hj).1, (h7 j hj).2.ext e⟩)
      refine ⟨Go.undef, _, .tuple [], _, ?_, hK, .tuple [] #[] rfl (fun i hi => by simp at hi), k1, k2⟩
      simp only [Nat.zero_add, Option.map_some] at hf
      simp only [Instr.mapUpdate, Sem.run_bind, run_underlying hu, Result.andThen_ok, run_getObj h1 (by simp), hck, hf, hks, run_setObj _ h1 (by simp), Sem.run_pure]
  | cells => exact hK.1.elim
  | obj => exact hK.1.elim
  | loop => exact hK.1.elim

/-! ### range -/
def arangeG (b : Nat) (m : Heap) (K : AVal → Heap → Prop) : Prop := match m b with
  | some (.map _ _ cl) => ∀ r, m r = none → K (.ptr r 0) (hupd m r (.obj (.mapIter (some b) cl #[] cl)))
  | _ => False
def arange (P : Program) (t : TypeId) (x : AVal) : D := match P.underlying t with
  | some (.map _ _) => match x with
    | .nilmap => .alloc True (.obj (.mapIter none 0 #[] 0)) fun r => .ptr r 0
    | .map b => .eff (arangeG b)
    | _ => .fail
  | _ => .fail
theorem range_wp {b : Nat} {m : Heap} {K : AVal → Heap → Prop} {es : List (Int × AVal)} {bs : List Nat} {cl : Nat} (hb : m b = some (.map es bs cl)) (h : ∀ r, m r = none → K (.ptr r 0) (hupd m r (.obj (.mapIter (some b) cl #[] cl)))) : arangeG b m K := by
  unfold arangeG; rw [hb]; exact h
theorem arange_tells {P : Program} {w : World} {m : Heap} {t : TypeId} {x : AVal} {x' : Value} (hs : Sat m w) (hx : VRel m w x x') : Tells P (arange P t x) (Instr.range t x') w m := by
  unfold arange
  split
  case h_2 => exact tells_fail
  rename_i k e hu
  split
  · cases hx
    exact tells_alloc hs fun _ => ⟨.mapIter none 0 #[] 0, .pointer (some ⟨w.heap.size, 0, none⟩), by simp [Instr.range, run_underlying hu, newObj, Sem.run, Result.andThen], fun _ _ _ => rfl, .ptr _ _⟩
  · rename_i b
    cases hx
    intro K hK
    simp only [D.run, arangeG] at hK
    split at hK
    · rename_i es bs cl hb
      obtain ⟨ents, h1, -⟩ := hs b _ hb
      obtain ⟨k1, k2⟩ := alloc_step hs (.mapIter (some b) cl #[] cl) (.obj (.mapIter (some b) cl #[] cl)) (fun _ _ _ => rfl)
      refine ⟨.pointer (some ⟨w.heap.size, 0, none⟩), _, _, _, ?_, hK _ hs.fresh, .ptr _ _, k1, k2⟩
      have hg := run_getObj (P := P) h1 (by simp)
      simp [Instr.range, run_underlying hu, hg, newObj, Sem.run, Result.andThen]
    · exact hK.elim
  · exact tells_fail
/-- One entry more, whichever; or the end. -/
def anextG (r : Nat) (m : Heap) (K : AVal → Heap → Prop) : Prop := match m r with
  | some (.obj (.mapIter none _ _ _)) => K (.tuple [.bool false]) m
  | some (.obj (.mapIter (some b) since seen last)) => match m b with
    | some (.map es bs cl) => since = cl ∧ last = cl ∧ ((∀ x ∈ bs, x ∈ seen) → K (.tuple [.bool false]) m) ∧
        ∀ i, i < es.length → bs.getD i 0 ∉ seen → K (.tuple [.bool true, .int .i64 (es.getD i (0, .undef)).1, (es.getD i (0, .undef)).2]) (hupd m r (.obj (.mapIter (some b) cl (seen.push (bs.getD i 0)) cl)))
    | _ => False
  | _ => False
def anext (isString : Bool) (x : AVal) : D := if isString then .fail else match x with
  | .ptr r 0 => .eff (anextG r)
  | _ => .fail
theorem next_wp {r b : Nat} {m : Heap} {K : AVal → Heap → Prop} {es : List (Int × AVal)} {bs : List Nat} {cl : Nat} {seen : Array Nat} (hr : m r = some (.obj (.mapIter (some b) cl seen cl))) (hb : m b = some (.map es bs cl))
    (h1 : (∀ x ∈ bs, x ∈ seen) → K (.tuple [.bool false]) m) (h2 : ∀ i, i < es.length → bs.getD i 0 ∉ seen → K (.tuple [.bool true, .int .i64 (es.getD i (0, .undef)).1, (es.getD i (0, .undef)).2]) (hupd m r (.obj (.mapIter (some b) cl (seen.push (bs.getD i 0)) cl)))) : anextG r m K := by
  unfold anextG
  simp only [hr, hb]
  exact ⟨trivial, trivial, h1, h2⟩
theorem anext_tells {P : Program} {w : World} {m : Heap} {t : TypeId} {b0 : Bool} {x : AVal} {x' : Value} (hs : Sat m w) (hx : VRel m w x x') : Tells P (anext b0 x) (Instr.next x' b0 t) w m := by
  unfold anext
  cases b0 with
  | true => exact tells_fail
  | false =>
  simp only [Bool.false_eq_true, if_false]
  split
  case h_2 => exact tells_fail
  rename_i r
  cases hx
  intro K hK
  simp only [D.run, anextG] at hK
  split at hK
  · rename_i a b c hr
    have h1 : w.heap[r]? = some _ := hs r _ hr
    refine ⟨.tuple #[.bool false], w, .tuple [.bool false], m, ?_, hK, .tuple _ _ rfl (fun i hi => ?_), hs, Ext.refl _ _⟩
    · simp [Instr.next, run_getObj h1 (by simp), Result.andThen]
    · match i, hi with
      | 0, _ => exact .bool _
  · rename_i b since seen last hr
    have hro : w.heap[r]? = some (.mapIter (some b) since seen last) := hs r _ hr
    split at hK
    case h_2 => exact hK.elim
    rename_i es bs cl hb
    obtain ⟨es1, es2, hend, hnext⟩ := hK
    obtain es1 := es1.symm
    obtain es2 := es2.symm
    subst es1
    subst es2
    obtain ⟨ents, h1, h2, h3, h4, h5, h6, h7⟩ := hs b _ hb
    have hborn : ∀ e ∈ ents.toList, e.born < cl := fun e he => h3 _ (by rw [← h2]; exact List.mem_map_of_mem he)
    have hun : (!seen.isEmpty && !ents.isEmpty && ents.all fun e => decide (e.born ≥ cl)) = false := by
      cases hemp : ents.isEmpty with
      | true => simp
      | false =>
        have : (ents.all fun e => decide (e.born ≥ cl)) = false := by
          rw [Array.all_eq_false]
          have hsz : 0 < ents.size := by
            rcases Nat.eq_zero_or_pos ents.size with h | h
            · rw [Array.isEmpty] at hemp; simp [h] at hemp
            · exact h
          refine ⟨0, hsz, ?_⟩
          have := hborn ents[0] (by simp)
          simp; omega
        rw [this]; simp
    have hold : ((ents.filter fun e => !seen.contains e.born).filter fun e => decide (e.born < cl)) = ents.filter fun e => !seen.contains e.born := by
      refine Array.filter_eq_self.2 fun e he => ?_
      have := hborn e (by simpa using (Array.mem_filter.1 he).1)
      simpa using this
    have hnew : ((ents.filter fun e => !seen.contains e.born).filter fun e => decide (e.born ≥ cl)) = #[] := by
      rw [Array.filter_eq_empty_iff]
      intro e he
      have he2 := (Array.mem_filter.1 he).1
      have := hborn e (by simpa using he2)
      simp; omega
    obtain ⟨L, hL⟩ : ∃ L, L = ents.filter fun e => !seen.contains e.born := ⟨_, rfl⟩
    rw [← hL] at hold hnew
    have hg1 := run_getObj (P := P) hro (by simp)
    have hg2 := run_getObj (P := P) h1 (by simp)
    by_cases h0 : L.size = 0
    · have hLe : L = #[] := Array.eq_empty_of_size_eq_zero h0
      have hall : ∀ x ∈ bs, x ∈ seen := by
        intro x hx
        rw [← h2] at hx
        obtain ⟨e, he, rfl⟩ := List.mem_map.1 hx
        by_cases hc : e.born ∈ seen
        · exact hc
        · exfalso
          have : e ∈ L := by rw [hL, Array.mem_filter]; exact ⟨by simpa using he, by simpa using hc⟩
          rw [hLe] at this; simp at this
      refine ⟨.tuple #[.bool false], w, .tuple [.bool false], m, ?_, hend hall, .tuple _ _ rfl (fun i hi => ?_), hs, Ext.refl _ _⟩
      · simp only [Instr.next, Sem.run_bind, hg1, hg2, Result.andThen_ok, hun, Bool.false_eq_true, if_false, ← hL, hold, hnew, hLe]
        simp [choose, Sem.run, Question.forced]
      · match i, hi with
        | 0, _ => exact .bool _
    · have hne : L.isEmpty = false := by simp [Array.isEmpty, h0]
      have hch : ∃ (j : Nat) (w1 : World), j < L.size ∧ (Sat m w1 ∧ Ext m w m w1 ∧ w1.heap = w.heap) ∧ (choose (Question.mapNext L.size)).run P w = .ok j w1 := by
        by_cases hf : L.size ≤ 1
        · exact ⟨0, w, by omega, ⟨hs, Ext.refl _ _, rfl⟩, by simp [choose, Sem.run, Question.forced, hf]⟩
        · exact ⟨_, w.drew, Nat.mod_lt _ (by omega), ⟨(draw_step hs).1, (draw_step hs).2, rfl⟩, by
            simp only [choose, Sem.run, Question.forced, decide_eq_true_eq, hf, if_false, Question.cut]
            rfl⟩
      obtain ⟨j, w1, hj, ⟨hs1, he1, hh1⟩, hrun⟩ := hch
      have hm := Array.mem_filter.1 (show L[j] ∈ ents.filter _ by rw [← hL]; simp)
      obtain ⟨i, hi, hie⟩ := Array.getElem_of_mem hm.1
      have hi2 : i < es.length := by omega
      have hbi : bs.getD i 0 = L[j].born := by
        rw [← h2, ← hie]
        simp [List.getD_eq_getElem?_getD, hi]
      have hns : bs.getD i 0 ∉ seen := by rw [hbi]; simpa using hm.2
      have hk := hnext i hi2 hns
      have hki := h7 i hi2
      have hgi : ents.getD i default = L[j] := by rw [← hie]; simp [Array.getD_eq_getD_getElem?, hi]
      rw [hgi] at hki
      obtain ⟨k1, k2⟩ := put_ends (y := .obj (.mapIter (some b) cl (seen.push (bs.getD i 0)) cl)) (o := .mapIter (some b) cl (seen.push (bs.getD i 0)) cl) hs1 hr (fun _ _ _ => rfl)
      have hro1 : w1.heap[r]? = some (.mapIter (some b) cl seen cl) := by rw [hh1]; exact hro
      refine ⟨.tuple #[.bool true, L[j].key, L[j].val], _, _, _, ?_, hk, .tuple _ _ rfl (fun q hq => ?_), k1, he1.trans k2⟩
      · have hset := run_setObj (P := P) (.mapIter (some b) cl (seen.push (bs.getD i 0)) cl) hro1 (by simp)
        simp only [Instr.next, Sem.run_bind, hg1, hg2, Result.andThen_ok, hun, Bool.false_eq_true, if_false, ← hL, hold, hnew, Array.append_empty, hne, Array.empty_append, Array.size_map, hrun, Array.getElem?_map, Array.getElem?_eq_getElem hj, Option.map_some, ← hbi, hset, Sem.run_pure]
      · match q, hq with
        | 0, _ => exact .bool _
        | 1, _ =>
          show VRel _ _ (.int .i64 _) L[j].key
          rw [hki.1]; exact .int _ _
        | 2, _ => exact hki.2.ext (he1.trans k2)
  · exact hK.elim
/-- The entry that the last step handed out. -/
def aentryG (r : Nat) (m : Heap) (K : AVal → Heap → Prop) : Prop := match m r with
  | some (.obj (.mapIter (some b) _ seen last)) => match m b with
    | some (.map es bs cl) => last = cl ∧ ∃ i, i < es.length ∧ seen.back? = some (bs.getD i 0) ∧ K (.tuple [.int .i64 (es.getD i (0, .undef)).1, (es.getD i (0, .undef)).2]) m
    | _ => False
  | _ => False
def aentry (x : AVal) : D := match x with
  | .ptr r 0 => .eff (aentryG r)
  | _ => .fail
theorem entry_wp {r b : Nat} {m : Heap} {K : AVal → Heap → Prop} {es : List (Int × AVal)} {bs : List Nat} {cl since : Nat} {seen : Array Nat} (i : Nat) (hr : m r = some (.obj (.mapIter (some b) since (seen.push (bs.getD i 0)) cl))) (hb : m b = some (.map es bs cl)) (hi : i < es.length)
    (h : K (.tuple [.int .i64 (es.getD i (0, .undef)).1, (es.getD i (0, .undef)).2]) m) : aentryG r m K := by
  unfold aentryG
  simp only [hr, hb]
  exact ⟨trivial, i, hi, Array.back?_push, h⟩
theorem aentry_tells {P : Program} {w : World} {m : Heap} {x : AVal} {x' : Value} (hs : Sat m w) (hx : VRel m w x x') : Tells P (aentry x) (Instr.entry x') w m := by
  unfold aentry
  split
  case h_2 => exact tells_fail
  rename_i r
  cases hx
  intro K hK
  simp only [D.run, aentryG] at hK
  split at hK
  · rename_i b since seen last hr
    have hro : w.heap[r]? = some (.mapIter (some b) since seen last) := hs r _ hr
    split at hK
    case h_2 => exact hK.elim
    rename_i es bs cl hb
    obtain ⟨es2, i, hi, hbk, hk⟩ := hK
    obtain ⟨ents, h1, h2, h3, h4, h5, h6, h7⟩ := hs b _ hb
    have hg1 := run_getObj (P := P) hro (by simp)
    have hg2 := run_getObj (P := P) h1 (by simp)
    have hi2 : i < ents.size := by omega
    have hbi : bs.getD i 0 = ents[i].born := by
      rw [← h2]; simp [List.getD_eq_getElem?_getD, hi2]
    have hfind : ents.find? (·.born == bs.getD i 0) = some ents[i] := by
      rw [← Array.find?_toList, hbi]
      exact find_born ents[i] ents.toList (by rw [h2]; exact h4) (by simp)
    have hki := h7 i hi
    have hgi : ents.getD i default = ents[i] := by simp [Array.getD_eq_getD_getElem?, hi2]
    rw [hgi] at hki
    refine ⟨.tuple #[ents[i].key, ents[i].val], w, _, m, ?_, hk, .tuple _ _ rfl (fun q hq => ?_), hs, Ext.refl _ _⟩
    · simp only [Instr.entry, Sem.run_bind, hg1, hg2, Result.andThen_ok, hbk, es2, bne_self_eq_false, Bool.false_eq_true, if_false, hfind, Sem.run_pure]
    · match q, hq with
      | 0, _ =>
        show VRel _ _ (.int .i64 _) ents[i].key
        rw [hki.1]; exact .int _ _
      | 1, _ => exact hki.2
  · exact hK.elim
end Go.Proofs.YtdckcophbmnjjaaGreatDoor.Ab
