/- Operations, part four: numbers, tests, equality, what is built of parts. -/
import Derived.Test.YtcdhihoghkkahaaAb4
import Derived.Laws.StructEq
set_option linter.all false
namespace Go.Proofs.Ytcdhihoghkkahaa.Ab
open Go

/-! ### Equality -/
/-- Are two values that are no aggregates equal? none: not told here. -/
def aeqFlat : TypeDesc → AVal → AVal → Option Bool
  | .bool, .bool a, .bool b => some (a == b)
  | .int _, .int k a, .int k' b => if k = k' then some (a == b) else none
  | .pointer _, .nilp, .nilp => some true
  | .pointer _, .nilp, .ptr _ _ => some false
  | .pointer _, .nilp, .rptr _ _ => some false
  | .pointer _, .ptr _ _, .nilp => some false
  | .pointer _, .rptr _ _, .nilp => some false
  | .slice _, .nils, .nils => some true
  | .slice _, .nils, .slice _ _ _ _ => some false
  | .slice _, .slice _ _ _ _, .nils => some false
  | .map _ _, .nilmap, .nilmap => some true
  | .map _ _, .nilmap, .map _ => some false
  | .map _ _, .map _, .nilmap => some false
  | _, _, _ => none
def aggOf : AVal → Option (List AVal)
  | .agg cs => some cs
  | _ => none
def rokB (a : Bool) (n : Nat) (cs : List AVal) (o : Nat) : Bool := if a then o + n ≤ cs.length else o < cs.length
mutual
/-- Are two values of a type equal? none: not told here. -/
def aeq (P : Program) : Nat → TypeId → AVal → AVal → Option Bool
  | 0, _, _, _ => none
  | d + 1, t, x, y => match P.underlying t with
    | some (.struct fs) => if P.stoodInHeld t then none else
      match aggOf x, aggOf y with
      | some xs, some ys => aeqFs P d xs ys fs.toList
      | _, _ => none
    | some (.array n e) =>
      match aggOf x, aggOf y, tk P e with
      | some xs, some ys, some (a, s) => aeqEs P d e a s xs ys n 0
      | _, _, _ => none
    | some u => aeqFlat u x y
    | none => none
def aeqFs (P : Program) : Nat → List AVal → List AVal → List Field → Option Bool
  | _, _, _, [] => some true
  | d, xs, ys, f :: fs => if f.name ≠ "_" then
      match tk P f.type with
      | some (a, n) => if rokB a n xs f.offset && rokB a n ys f.offset then
          match aeq P d f.type (rcell a n xs f.offset) (rcell a n ys f.offset), aeqFs P d xs ys fs with
          | some b, some c => some (b && c)
          | _, _ => none
        else none
      | none => none
    else aeqFs P d xs ys fs
def aeqEs (P : Program) : Nat → TypeId → Bool → Nat → List AVal → List AVal → Nat → Nat → Option Bool
  | _, _, _, _, _, _, 0, _ => some true
  | d, e, a, s, xs, ys, n + 1, i => if rokB a s xs (i * s) && rokB a s ys (i * s) then
      match aeq P d e (rcell a s xs (i * s)) (rcell a s ys (i * s)), aeqEs P d e a s xs ys n (i + 1) with
      | some b, some c => some (b && c)
      | _, _ => none
    else none
end

theorem rokB_rok {a : Bool} {n : Nat} {cs : List AVal} {o : Nat} (h : rokB a n cs o = true) : rok a n cs o := by
  unfold rokB at h; unfold rok; cases a <;> simpa using h

def eqElems (e : TypeId) (D s : Nat) (xs ys : Array Value) : Nat → Nat → Sem Bool
  | 0, _ => pure true
  | n + 1, i => do
    let a ← part e xs (i * s)
    let b ← part e ys (i * s)
    let r ← Op.equalIn D e a b
    if (!r) = true then pure false else eqElems e D s xs ys n (i + 1)
theorem run_equalIn_array {P : Program} (w : World) (D : Nat) (t e : TypeId) (len : Nat) (xs ys : Array Value) (ht : P.underlying t = some (.array len e)) {a : Bool} {s : Nat} (he : tk P e = some (a, s)) :
    (Op.equalIn (D + 1) t (.agg xs) (.agg ys)).run P w = (eqElems e D s xs ys len 0).run P w := by
  simp only [Op.equalIn, Sem.run_bind, run_underlying ht, Result.andThen_ok, run_sizeOf' he]
  rw [Std.Legacy.Range.forIn_eq_forIn_range']
  simp only [Std.Legacy.Range.size, Nat.sub_zero, Nat.add_sub_cancel, Nat.div_one]
  clear ht
  generalize 0 = i
  induction len generalizing i w with
  | zero => simp [eqElems]
  | succ n ih =>
    simp only [List.range'_succ, List.forIn_cons, eqElems, Sem.run_bind, Sem.run_ite]
    generalize (part e xs (i * s)).run P w = r1
    cases r1 with
    | ok a w1 =>
      simp only [Result.andThen_ok]
      generalize (part e ys (i * s)).run P w1 = r2
      cases r2 with
      | ok b w2 =>
        simp only [Result.andThen_ok]
        generalize (Op.equalIn D e a b).run P w2 = r3
        cases r3 with
        | ok r w3 =>
          cases r
          · simp only [Result.andThen_ok, Bool.not_false, if_true, Sem.run_pure]
          · simp only [Result.andThen_ok, Bool.not_true, Bool.false_eq_true, if_false, Sem.run_pure]
            exact ih w3 (i + 1)
        | halt x w3 => simp [Result.andThen]
      | halt x w2 => simp [Result.andThen]
    | halt x w1 => simp [Result.andThen]

theorem aeq_sound {P : Program} {m : Heap} {w : World} : ∀ (d : Nat) (t : TypeId) (x y : AVal) (b : Bool), aeq P d t x y = some b → ∀ (x' y' : Value), VRel m w x x' → VRel m w y y' → ∀ D, d ≤ D → (Op.equalIn D t x' y').run P w = .ok b w := by
  intro d
  induction d with
  | zero => intro t x y b h; simp [aeq] at h
  | succ d ih =>
    have hF : ∀ (fs : List Field) (xs ys : List AVal) (b : Bool), aeqFs P d xs ys fs = some b → ∀ (xs' ys' : Array Value), xs.length = xs'.size → ys.length = ys'.size →
        (∀ i, i < xs.length → VRel m w (xs.getD i .undef) (xs'.getD i Go.undef)) → (∀ i, i < ys.length → VRel m w (ys.getD i .undef) (ys'.getD i Go.undef)) → ∀ D, d ≤ D → (Op.eqFields D xs' ys' fs).run P w = .ok b w := by
      intro fs
      induction fs with
      | nil => intro xs ys b h xs' ys' _ _ _ _ D _; simp [aeqFs] at h; simp [Op.eqFields, h]
      | cons f fs ihf =>
        intro xs ys b h xs' ys' l1 l2 v1 v2 D hD
        simp only [aeqFs] at h
        simp only [Op.eqFields, Sem.run_ite, Sem.run_bind]
        split at h
        · rename_i hn
          split at h
          · rename_i a n ht
            split at h
            · rename_i hr
              simp only [Bool.and_eq_true] at hr
              split at h
              · rename_i b1 c1 h1 h2
                obtain ⟨p, k1, k2⟩ := run_part (P := P) ht f.offset xs xs' l1 v1 (rokB_rok hr.1)
                obtain ⟨q, k3, k4⟩ := run_part (P := P) ht f.offset ys ys' l2 v2 (rokB_rok hr.2)
                have e := ih _ _ _ _ h1 _ _ k2 k4 D hD
                have e2 := ihf xs ys c1 h2 xs' ys' l1 l2 v1 v2 D hD
                simp only [Option.some.injEq] at h
                subst h
                rw [if_pos hn]
                simp only [k1, k3, Result.andThen_ok, e]
                cases b1 <;> simp [e2]
              · simp at h
            · simp at h
          · simp at h
        · rename_i hn
          rw [if_neg hn]
          exact ihf xs ys b h xs' ys' l1 l2 v1 v2 D hD
    have hE : ∀ (e : TypeId) (a : Bool) (s : Nat), tk P e = some (a, s) → ∀ (n i : Nat) (xs ys : List AVal) (b : Bool), aeqEs P d e a s xs ys n i = some b → ∀ (xs' ys' : Array Value), xs.length = xs'.size → ys.length = ys'.size →
        (∀ i, i < xs.length → VRel m w (xs.getD i .undef) (xs'.getD i Go.undef)) → (∀ i, i < ys.length → VRel m w (ys.getD i .undef) (ys'.getD i Go.undef)) → ∀ D, d ≤ D → (eqElems e D s xs' ys' n i).run P w = .ok b w := by
      intro e a s ht n
      induction n with
      | zero => intro i xs ys b h xs' ys' _ _ _ _ D _; simp [aeqEs] at h; simp [eqElems, h]
      | succ n ihn =>
        intro i xs ys b h xs' ys' l1 l2 v1 v2 D hD
        simp only [aeqEs] at h
        split at h
        · rename_i hr
          simp only [Bool.and_eq_true] at hr
          split at h
          · rename_i b1 c1 h1 h2
            obtain ⟨p, k1, k2⟩ := run_part (P := P) ht (i * s) xs xs' l1 v1 (rokB_rok hr.1)
            obtain ⟨q, k3, k4⟩ := run_part (P := P) ht (i * s) ys ys' l2 v2 (rokB_rok hr.2)
            have e := ih _ _ _ _ h1 _ _ k2 k4 D hD
            have e2 := ihn (i + 1) xs ys c1 h2 xs' ys' l1 l2 v1 v2 D hD
            simp only [Option.some.injEq] at h
            subst h
            simp only [eqElems, Sem.run_bind, k1, k3, Result.andThen_ok, e, Sem.run_ite]
            cases b1 <;> simp [e2]
          · simp at h
        · simp at h
    intro t x y b h x' y' hx hy D hD
    obtain ⟨D, rfl⟩ : ∃ D', D = D' + 1 := ⟨D - 1, by omega⟩
    rw [aeq] at h
    split at h
    · rename_i fs hu
      split at h
      · simp at h
      · rename_i hst
        split at h
        · rename_i xs ys h1 h2
          cases x <;> simp [aggOf] at h1
          cases y <;> simp [aggOf] at h2
          subst h1 h2
          cases hx with
          | agg _ xs' l1 v1 =>
            cases hy with
            | agg _ ys' l2 v2 =>
              have hfo : P.fieldsOf t = fs := by simp [Program.fieldsOf, hu]
              rw [run_equalIn_struct w D t xs' ys' (by rw [hfo]; exact hu) (by simpa using hst), hfo]
              exact hF _ _ _ _ h _ _ l1 l2 v1 v2 D (by omega)
        · simp at h
    · rename_i n e hu
      split at h
      · rename_i xs ys a s h1 h2 he
        cases x <;> simp [aggOf] at h1
        cases y <;> simp [aggOf] at h2
        subst h1 h2
        cases hx with
        | agg _ xs' l1 v1 =>
          cases hy with
          | agg _ ys' l2 v2 =>
            rw [run_equalIn_array w D t e n xs' ys' hu he]
            exact hE e a s he n 0 _ _ _ h _ _ l1 l2 v1 v2 D (by omega)
      · simp at h
    · rename_i u hn1 hn2 hu
      unfold aeqFlat at h
      split at h <;> first
        | (simp at h; done)
        | (cases hx; cases hy; simp only [Option.some.injEq] at h; subst h; simp [Op.equalIn, run_underlying hu]; done)
        | (split at h
           · rename_i hk
             cases hx; cases hy; simp only [Option.some.injEq] at h; subst h; simp [Op.equalIn, run_underlying hu, hk]
           · simp at h)
    · simp at h

end Go.Proofs.Ytcdhihoghkkahaa.Ab
