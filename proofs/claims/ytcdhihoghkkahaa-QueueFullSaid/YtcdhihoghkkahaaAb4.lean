/- Operations, part three: fields, elements, slices of slices, numbers. -/
import Derived.Test.YtcdhihoghkkahaaAb3
set_option linter.all false
namespace Go.Proofs.Ytcdhihoghkkahaa.Ab
open Go

/-! ### Fields -/
/-- A field's place, and what it holds: aggregate or not, how many cells. -/
def fo (P : Program) (s : TypeId) (f : Nat) : Option (Nat × Bool × Nat) := match P.underlying s with
  | some (.struct fs) => match fs[f]? with
    | some fl => match tk P fl.type with
      | some (a, n) => some (fl.offset, a, n)
      | none => none
    | none => none
  | _ => none

def afieldAddr (P : Program) (s : TypeId) (f : Nat) : AVal → D
  | .ptr b o => match fo P s f with
    | some (off, _, n) => .pure (n ≠ 0) (.ptr b (o + off))
    | none => .fail
  | .rptr cs o => match fo P s f with
    | some (off, _, n) => .pure (n ≠ 0) (.rptr cs (o + off))
    | none => .fail
  | _ => .fail
theorem run_fieldAt {P : Program} {w : World} {s : TypeId} {f off n : Nat} {a : Bool} (h : fo P s f = some (off, a, n)) (hn : n ≠ 0) (b o : Nat) :
    (Instr.fieldAt s (.pointer (some ⟨b, o, none⟩)) f).run P w = .ok (.pointer (some ⟨b, o + off, none⟩)) w := by
  unfold fo at h
  split at h
  · rename_i fs hu
    split at h
    · rename_i fl hf
      split at h
      · rename_i a' n' ht
        simp only [Option.some.injEq, Prod.mk.injEq] at h
        obtain ⟨rfl, rfl, rfl⟩ := h
        simp [Instr.fieldAt, run_underlying hu, hf, Instr.sureAddr, fieldPlace, run_sizeOf' ht, hn, addr_add]
      · simp at h
    · simp at h
  · simp at h
theorem afieldAddr_tells {P : Program} {w : World} {m : Heap} {s : TypeId} {f : Nat} {v : AVal} {x : Value} (hs : Sat m w) (hv : VRel m w v x) : Tells P (afieldAddr P s f v) (Instr.fieldAt s x f) w m := by
  unfold afieldAddr
  split
  · split
    · rename_i hf
      refine tells_pure hs (fun hn => ?_)
      cases hv
      exact ⟨_, run_fieldAt hf hn _ _, .ptr _ _⟩
    · exact tells_fail
  · split
    · rename_i hf
      refine tells_pure hs (fun hn => ?_)
      cases hv with
      | rptr cs o b off' g hm hb hc hv' =>
        refine ⟨_, run_fieldAt hf hn _ _, ?_⟩
        rw [Nat.add_assoc]
        exact .rptr _ _ _ _ g hm hb hc hv'
    · exact tells_fail
  · exact tells_fail

theorem run_part {P : Program} {m : Heap} {w : World} {t : TypeId} {a : Bool} {n : Nat} (ht : tk P t = some (a, n)) (o : Nat) (cs : List AVal) (vs : Array Value) (hl : cs.length = vs.size)
    (hv : ∀ i, i < cs.length → VRel m w (cs.getD i .undef) (vs.getD i Go.undef)) (hok : rok a n cs o) : ∃ x, (part t vs o).run P w = .ok x w ∧ VRel m w (rcell a n cs o) x := by
  unfold part
  cases a with
  | true =>
    simp only [rok, if_true] at hok
    refine ⟨.agg (vs.extract o (o + n)), by simp [run_isAgg ht, run_sizeOf' ht], ?_⟩
    refine .agg _ _ (by simp [hl]; omega) (fun i hi => ?_)
    have hi' : i < n := by simp at hi; omega
    have e1 : ((cs.drop o).take n).getD i .undef = cs.getD (o + i) .undef := by
      simp [List.getD_eq_getElem?_getD, List.getElem?_take, hi', List.getElem?_drop]
    have e2 : (vs.extract o (o + n)).getD i Go.undef = vs.getD (o + i) Go.undef := by
      simp only [Array.getD_eq_getD_getElem?, Array.getElem?_extract]
      rw [if_pos (by omega)]
    rw [e1, e2]; exact hv _ (by omega)
  | false =>
    simp only [rok, Bool.false_eq_true, if_false] at hok
    refine ⟨vs.getD o Go.undef, ?_, by simpa [rcell] using hv o hok⟩
    have : o < vs.size := by omega
    simp [run_isAgg ht, this, Array.getD_eq_getD_getElem?]

def afield (P : Program) (s : TypeId) (f : Nat) : AVal → D
  | .agg cs => match fo P s f with
    | some (off, a, n) => .pure (rok a n cs off) (rcell a n cs off)
    | none => .fail
  | _ => .fail
theorem afield_tells {P : Program} {w : World} {m : Heap} {s : TypeId} {f : Nat} {v : AVal} {x : Value} (hs : Sat m w) (hv : VRel m w v x) : Tells P (afield P s f v) (Instr.field s x f) w m := by
  unfold afield
  split
  · split
    · rename_i off a n hf
      refine tells_pure hs (fun hok => ?_)
      cases hv with
      | agg cs vs hl hv' =>
        unfold fo at hf
        split at hf
        · rename_i fs hu
          split at hf
          · rename_i fl hfl
            split at hf
            · rename_i a' n' ht
              simp only [Option.some.injEq, Prod.mk.injEq] at hf
              obtain ⟨rfl, rfl, rfl⟩ := hf
              obtain ⟨x, h1, h2⟩ := run_part (P := P) ht fl.offset _ vs hl hv' hok
              exact ⟨x, by simp [Instr.field, run_underlying hu, hfl, asAgg, h1], h2⟩
            · simp at hf
          · simp at hf
        · simp at hf
    · exact tells_fail
  · exact tells_fail

/-! ### Elements -/
def aindex (P : Program) (t : TypeId) : AVal → AVal → D
  | .agg cs, .int _ i => match P.underlying t with
    | some (.array len e) => match tk P e with
      | some (a, n) => .pure (0 ≤ i ∧ i < len ∧ rok a n cs (i.toNat * n)) (rcell a n cs (i.toNat * n))
      | none => .fail
    | _ => .fail
  | _, _ => .fail
theorem aindex_tells {P : Program} {w : World} {m : Heap} {t : TypeId} {v u : AVal} {x y : Value} (hs : Sat m w) (hv : VRel m w v x) (hu : VRel m w u y) : Tells P (aindex P t v u) (Instr.index t x y) w m := by
  unfold aindex
  split
  · rename_i cs k i
    split
    · rename_i len e hd
      split
      · rename_i a n ht
        refine tells_pure hs (fun ⟨h0, h1, hok⟩ => ?_)
        cases hu
        cases hv with
        | agg cs vs hl hv' =>
          obtain ⟨x, k1, k2⟩ := run_part (P := P) ht (i.toNat * n) cs vs hl hv' hok
          exact ⟨x, by simp [Instr.index, asIntOf, run_underlying hd, h0, h1, run_sizeOf' ht, k1], k2⟩
      · exact tells_fail
    · exact tells_fail
  · exact tells_fail

def elemT (P : Program) (t : TypeId) : Option (Option Nat × TypeId) := match P.underlying t with
  | some (.array n e) => some (some n, e)
  | some (.slice e) => some (none, e)
  | _ => none
def aindexAddr (P : Program) (t : TypeId) : AVal → AVal → D
  | .slice b o len _, .int _ i => match P.underlying t with
    | some (.slice e) => match tk P e with
      | some (_, n) => .pure (0 ≤ i ∧ i < len) (.ptr b (o + i.toNat * n))
      | none => .fail
    | _ => .fail
  | .list sz xs, .int _ i => match P.underlying t with
    | some (.slice e) => match tk P e with
      | some (_, n) => .pure (n = sz ∧ 0 ≤ i ∧ i < xs.length) (.rptr (xs.getD i.toNat .undef).cells 0)
      | none => .fail
    | _ => .fail
  | .ptr b o, .int _ i => match P.underlying t with
    | some (.array len e) => match tk P e with
      | some (_, n) => .pure (0 ≤ i ∧ i < len) (.ptr b (o + i.toNat * n))
      | none => .fail
    | _ => .fail
  | .rptr cs o, .int _ i => match P.underlying t with
    | some (.array len e) => match tk P e with
      | some (_, n) => .pure (0 ≤ i ∧ i < len) (.rptr cs (o + i.toNat * n))
      | none => .fail
    | _ => .fail
  | _, _ => .fail
theorem aindexAddr_tells {P : Program} {w : World} {m : Heap} {t : TypeId} {v u : AVal} {x y : Value} (hs : Sat m w) (hv : VRel m w v x) (hu : VRel m w u y) : Tells P (aindexAddr P t v u) (Instr.indexAt t x y) w m := by
  unfold aindexAddr
  split
  · rename_i b o len cap k i
    split
    · rename_i e hd
      split
      · rename_i a n ht
        refine tells_pure hs (fun ⟨h0, h1⟩ => ?_)
        cases hu; cases hv
        exact ⟨.pointer (some ⟨b, o + i.toNat * n, none⟩), by simp [Instr.indexAt, asIntOf, run_underlying hd, h0, h1, run_sizeOf' ht, addr_add], .ptr _ _⟩
      · exact tells_fail
    · exact tells_fail
  · rename_i sz xs k i
    split
    · rename_i e hd
      split
      · rename_i a n ht
        refine tells_pure hs (fun ⟨hn, h0, h1⟩ => ?_)
        subst hn
        cases hu
        cases hv with
        | list0 => simp at h1; omega
        | list _ _ b off cap f hm hb hcap hsz hc hv' =>
          have hi : i.toNat < xs.length := by omega
          refine ⟨.pointer (some ⟨b, off + i.toNat * n, none⟩), by simp [Instr.indexAt, asIntOf, run_underlying hd, h0, h1, run_sizeOf' ht, addr_add], ?_⟩
          have hl := hsz i.toNat hi
          have := VRel.rptr (m := m) (w := w) (xs.getD i.toNat .undef).cells 0 b (off + i.toNat * n) (fun j => f i.toNat j) hm hb
            (fun j hj => by rw [hl] at hj; rw [Nat.add_assoc]; exact hc i.toNat j hi hj) (fun j hj => by rw [hl] at hj; exact hv' i.toNat j hi hj)
          simpa using this
      · exact tells_fail
    · exact tells_fail
  · rename_i b o k i
    split
    · rename_i len e hd
      split
      · rename_i a n ht
        refine tells_pure hs (fun ⟨h0, h1⟩ => ?_)
        cases hu; cases hv
        exact ⟨.pointer (some ⟨b, o + i.toNat * n, none⟩), by simp [Instr.indexAt, asIntOf, run_underlying hd, h0, h1, run_sizeOf' ht, addr_add, Instr.sureAddr], .ptr _ _⟩
      · exact tells_fail
    · exact tells_fail
  · rename_i cs o k i
    split
    · rename_i len e hd
      split
      · rename_i a n ht
        refine tells_pure hs (fun ⟨h0, h1⟩ => ?_)
        cases hu
        cases hv with
        | rptr _ _ b off g hm hb hc hv' =>
          refine ⟨.pointer (some ⟨b, off + o + i.toNat * n, none⟩), by simp [Instr.indexAt, asIntOf, run_underlying hd, h0, h1, run_sizeOf' ht, addr_add, Instr.sureAddr], ?_⟩
          rw [Nat.add_assoc]
          exact .rptr _ _ _ _ g hm hb hc hv'
      · exact tells_fail
    · exact tells_fail
  · exact tells_fail

/-! ### A part of a slice -/
/-- A bound: not there, or a number. -/
def abound (dflt : Nat) : Option AVal → Option Int
  | none => some dflt
  | some (.int _ n) => some n
  | some _ => none
def aslice (P : Program) (t : TypeId) (x : AVal) (lo hi mx : Option AVal) : D :=
  match x with
  | .slice b o len cap => match P.underlying t with
    | some (.slice e) => match tk P e, abound 0 lo, abound len hi, abound cap mx with
      | some (_, n), some l, some h, some m => .pure (0 ≤ l ∧ l ≤ h ∧ h ≤ m ∧ m ≤ cap ∧ (mx.isSome = true → hi.isSome = true)) (.slice b (if m = l then o else o + l.toNat * n) (h.toNat - l.toNat) (m.toNat - l.toNat))
      | _, _, _, _ => .fail
    | _ => .fail
  | .list sz xs => match P.underlying t with
    | some (.slice e) => match tk P e, abound 0 lo, abound xs.length hi, abound xs.length mx with
      | some (_, n), some l, some h, some m => .pure (n = sz ∧ 0 ≤ l ∧ l ≤ h ∧ h ≤ m ∧ m ≤ xs.length ∧ (mx.isSome = true → hi.isSome = true)) (.list sz ((xs.take h.toNat).drop l.toNat))
      | _, _, _, _ => .fail
    | _ => .fail
  | .nils => match P.underlying t with
    | some (.slice e) => match tk P e, abound 0 lo, abound 0 hi, abound 0 mx with
      | some _, some l, some h, some m => .pure (l = 0 ∧ h = 0 ∧ m = 0 ∧ (mx.isSome = true → hi.isSome = true)) .nils
      | _, _, _, _ => .fail
    | _ => .fail
  | .ptr b o => match P.underlying t with
    | some (.array len e) => match tk P e, abound 0 lo, abound len hi, abound len mx with
      | some (_, n), some l, some h, some m => .pure (0 ≤ l ∧ l ≤ h ∧ h ≤ m ∧ m ≤ len ∧ (mx.isSome = true → hi.isSome = true)) (.slice b (if m = l then o else o + l.toNat * n) (h.toNat - l.toNat) (m.toNat - l.toNat))
      | _, _, _, _ => .fail
    | _ => .fail
  | _ => .fail

/-- The bounds as the model finds them. -/
def BRelO (m : Heap) (w : World) : Option AVal → Option Value → Prop
  | none, none => True
  | some v, some x => VRel m w v x
  | _, _ => False
theorem run_sliceBounds {P : Program} {m : Heap} {w : World} (isS : Bool) (len cap : Nat) (lo hi mx : Option AVal) (lo' hi' mx' : Option Value) (h1 : BRelO m w lo lo') (h2 : BRelO m w hi hi') (h3 : BRelO m w mx mx')
    (l h k : Int) (el : abound 0 lo = some l) (eh : abound len hi = some h) (em : abound cap mx = some k) (c0 : 0 ≤ l) (c1 : l ≤ h) (c2 : h ≤ k) (c3 : k ≤ cap) (c4 : mx.isSome = true → hi.isSome = true) :
    (Instr.sliceBounds isS len cap lo' hi' mx').run P w = .ok (l.toNat, h.toNat, k.toNat) w := by
  have hb : ∀ (v : AVal) (x : Value) (d : Nat) (n : Int) (y : Nat) (c : BoundsCode), VRel m w v x → abound d (some v) = some n → 0 ≤ n → n ≤ y → (Instr.sliceBound x y c).run P w = .ok n.toNat w := by
    intro v x d n y c hv ha g0 g1
    cases hv <;> simp [abound] at ha
    subst ha
    simp [Instr.sliceBound, asIntOf, g0, g1]
  unfold Instr.sliceBounds
  cases mx with
  | none =>
    cases mx' with
    | some _ => exact h3.elim
    | none =>
      simp only [abound, Option.some.injEq] at em
      subst em
      cases hi with
      | none =>
        cases hi' with
        | some _ => exact h2.elim
        | none =>
          simp only [abound, Option.some.injEq] at eh
          subst eh
          cases lo with
          | none =>
            cases lo' with
            | some _ => exact h1.elim
            | none => simp only [abound, Option.some.injEq] at el; subst el; simp
          | some v =>
            cases lo' with
            | none => exact h1.elim
            | some x => simp [hb v x 0 l len _ h1 el c0 (by omega)]
      | some u =>
        cases hi' with
        | none => exact h2.elim
        | some y =>
          have e1 := hb u y len h cap (if isS = true then BoundsCode.sliceAcap else BoundsCode.sliceAlen) h2 eh (by omega) (by omega)
          cases lo with
          | none =>
            cases lo' with
            | some _ => exact h1.elim
            | none => simp only [abound, Option.some.injEq] at el; subst el; simp [e1]
          | some v =>
            cases lo' with
            | none => exact h1.elim
            | some x =>
              have e2 := hb v x 0 l h.toNat .sliceB h1 el c0 (by omega)
              simp [e1, e2]
  | some z =>
    cases mx' with
    | none => exact h3.elim
    | some z' =>
      have e0 := hb z z' cap k cap (if isS = true then BoundsCode.slice3Acap else BoundsCode.slice3Alen) h3 em (by omega) (by omega)
      cases hi with
      | none => simp at c4
      | some u =>
        cases hi' with
        | none => exact h2.elim
        | some y =>
          have e1 := hb u y len h k.toNat .slice3B h2 eh (by omega) (by omega)
          cases lo with
          | none =>
            cases lo' with
            | some _ => exact h1.elim
            | none => simp only [abound, Option.some.injEq] at el; subst el; simp [e0, e1]
          | some v =>
            cases lo' with
            | none => exact h1.elim
            | some x =>
              have e2 := hb v x 0 l h.toNat .slice3C h1 el c0 (by omega)
              simp [e0, e1, e2]

theorem aslice_tells {P : Program} {w : World} {m : Heap} {t : TypeId} {v : AVal} {x : Value} {lo hi mx : Option AVal} {lo' hi' mx' : Option Value} (hs : Sat m w) (hv : VRel m w v x)
    (h1 : BRelO m w lo lo') (h2 : BRelO m w hi hi') (h3 : BRelO m w mx mx') : Tells P (aslice P t v lo hi mx) (Instr.sliceAt t x lo' hi' mx') w m := by
  unfold aslice
  split
  · rename_i b o len cap
    split
    · rename_i e hd
      split
      · rename_i a n l h k ht el eh em
        refine tells_pure hs (fun ⟨c0, c1, c2, c3, c4⟩ => ?_)
        cases hv
        have hr := run_sliceBounds (P := P) (m := m) true len cap lo hi mx lo' hi' mx' h1 h2 h3 l h k el eh em c0 c1 c2 c3 c4
        refine ⟨_, by simp only [Instr.sliceAt, Instr.slice, Sem.run_bind, run_underlying hd, Result.andThen_ok, hr, run_sizeOf' ht, Sem.run_pure]; rfl, ?_⟩
        by_cases hkl : k = l
        · subst hkl; simp only [if_true]; exact .slice _ _ _ _
        · have : ¬ k.toNat = l.toNat := by omega
          simp only [hkl, this, if_false, Option.map_some, addr_add]; exact .slice _ _ _ _
      · exact tells_fail
    · exact tells_fail
  · rename_i sz xs
    split
    · rename_i e hd
      split
      · rename_i a n l h k ht el eh em
        refine tells_pure hs (fun ⟨hn, c0, c1, c2, c3, c4⟩ => ?_)
        subst hn
        have key : ∀ (A : Option Addr) (cap : Nat) (k' : Int), xs.length ≤ cap → abound cap mx = some k' → k ≤ k' → k' ≤ cap →
            (Instr.sliceAt t (.slice A xs.length cap) lo' hi' mx').run P w = .ok (.slice (if k'.toNat = l.toNat then A else A.map (·.add (l.toNat * n))) (h.toNat - l.toNat) (k'.toNat - l.toNat)) w := by
          intro A cap k' hcap em' hk hk'
          have hr := run_sliceBounds (P := P) (m := m) true xs.length cap lo hi mx lo' hi' mx' h1 h2 h3 l h k' el eh em' c0 c1 (by omega) hk' c4
          simp only [Instr.sliceAt, Instr.slice, Sem.run_bind, run_underlying hd, Result.andThen_ok, hr, run_sizeOf' ht, Sem.run_pure]
        have hk' : ∀ cap, xs.length ≤ cap → ∃ k', abound cap mx = some k' ∧ k ≤ k' ∧ k' ≤ cap := by
          intro cap hcap
          cases mx with
          | none => simp only [abound, Option.some.injEq] at em; exact ⟨cap, rfl, by omega, by omega⟩
          | some z => cases z <;> simp [abound] at em ⊢; exact ⟨by omega, by omega⟩
        cases hv with
        | list0 sz A cap =>
          obtain ⟨k', g1, g2, g3⟩ := hk' cap (by simp)
          refine ⟨_, key A cap k' (by simp) g1 g2 g3, ?_⟩
          have e0 : h.toNat - l.toNat = 0 := by simp at c3; omega
          simp only [List.take_nil, List.drop_nil, e0]
          exact .list0 _ _ _
        | list sz _ b off cap f hm hb hcap hsz hc hv' =>
          obtain ⟨k', g1, g2, g3⟩ := hk' cap hcap
          refine ⟨_, key (some ⟨b, off, none⟩) cap k' hcap g1 g2 g3, ?_⟩
          have hlen : ((xs.take h.toNat).drop l.toNat).length = h.toNat - l.toNat := by simp; omega
          by_cases hz : h.toNat - l.toNat = 0
          · have : (xs.take h.toNat).drop l.toNat = [] := List.eq_nil_of_length_eq_zero (by omega)
            rw [this, hz]; exact .list0 _ _ _
          · have hne : ¬ k'.toNat = l.toNat := by omega
            simp only [hne, if_false, Option.map_some, addr_add]
            rw [← hlen]
            have hget : ∀ i, i < ((xs.take h.toNat).drop l.toNat).length → ((xs.take h.toNat).drop l.toNat).getD i .undef = xs.getD (l.toNat + i) .undef := by
              intro i hi
              rw [hlen] at hi
              have : l.toNat + i < h.toNat := by omega
              simp [List.getD_eq_getElem?_getD, List.getElem?_drop, List.getElem?_take, this]
            refine .list n _ b (off + l.toNat * n) _ (fun i j => f (l.toNat + i) j) hm hb (by rw [hlen]; omega) (fun i hi => ?_) (fun i j hi hj => ?_) (fun i j hi hj => ?_)
            · rw [hget i hi]; exact hsz _ (by rw [hlen] at hi; omega)
            · have := hc (l.toNat + i) j (by rw [hlen] at hi; omega) hj
              rw [← this]; congr 2
              rw [Nat.add_mul]; omega
            · rw [hget i hi]; exact hv' _ j (by rw [hlen] at hi; omega) hj
      · exact tells_fail
    · exact tells_fail
  · split
    · rename_i e hd
      split
      · rename_i an l h k ht el eh em
        refine tells_pure hs (fun ⟨c0, c1, c2, c4⟩ => ?_)
        cases hv
        subst c0 c1 c2
        have hr := run_sliceBounds (P := P) (m := m) true 0 0 lo hi mx lo' hi' mx' h1 h2 h3 0 0 0 el eh em (by omega) (by omega) (by omega) (by omega) c4
        obtain ⟨a, n⟩ := an
        exact ⟨.slice none 0 0, by simp only [Instr.sliceAt, Instr.slice, Sem.run_bind, run_underlying hd, Result.andThen_ok, hr, run_sizeOf' ht, Sem.run_pure]; simp, .nils⟩
      · exact tells_fail
    · exact tells_fail
  · rename_i b o
    split
    · rename_i len e hd
      split
      · rename_i a n l h k ht el eh em
        refine tells_pure hs (fun ⟨c0, c1, c2, c3, c4⟩ => ?_)
        cases hv
        have hr := run_sliceBounds (P := P) (m := m) false len len lo hi mx lo' hi' mx' h1 h2 h3 l h k el eh em c0 c1 c2 c3 c4
        refine ⟨_, by simp only [Instr.sliceAt, Instr.sureAddr, Sem.run_bind, run_underlying hd, Result.andThen_ok, hr, run_sizeOf' ht, Sem.run_pure]; rfl, ?_⟩
        by_cases hkl : k = l
        · subst hkl; simp only [if_true]; exact .slice _ _ _ _
        · have : ¬ k.toNat = l.toNat := by omega
          simp only [hkl, this, if_false, addr_add]; exact .slice _ _ _ _
      · exact tells_fail
    · exact tells_fail
  · exact tells_fail

end Go.Proofs.Ytcdhihoghkkahaa.Ab
