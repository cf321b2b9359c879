/- What comes in is opened: numbers and bools by kinds, lists of such. -/
import Derived.Test.YtcdhihoghkkahaaAb22
import Derived.Deep.Slices
import Derived.RowKit
set_option linter.all false
namespace Go.Proofs.Ytcdhihoghkkahaa.Ab
open Go

inductive CK where
  | int (k : IntKind) | bool | str
  deriving DecidableEq
def fkFs (P : Program) (g : TypeId → Option (List CK)) : List Field → Nat → Option (List CK)
  | [], _ => some []
  | f :: fs, o => match g f.type with
    | some ks => if f.offset = o ∧ P.cellsOf f.type = ks.length then
        match fkFs P g fs (o + ks.length) with
        | some r => some (ks ++ r)
        | none => none
      else none
    | none => none
/-- The kinds of a type's cells. -/
def fk (P : Program) : Nat → TypeId → Option (List CK)
  | 0, _ => none
  | d + 1, t => match P.underlying t with
    | some .bool => some [.bool]
    | some (.int k) => some [.int k]
    | some .string => some [.str]
    | some (.struct fs) => match fkFs P (fk P d) fs.toList 0 with
      | some ks => if P.cellsOf t = ks.length then some ks else none
      | none => none
    | some (.array n e) => match fk P d e with
      | some ks => if P.cellsOf e = ks.length ∧ P.cellsOf t = n * ks.length then some (List.replicate n ks).flatten else none
      | none => none
    | _ => none
def okK : CK → Value → Prop
  | .int k, v => ∃ n, v = .int k n ∧ (Lit.int k n).wf = true
  | .bool, v => ∃ b, v = .bool b
  | .str, v => ∃ s, v = .string s ∧ s.size ≤ maxLen
def okKs : List CK → List Value → Prop
  | [], [] => True
  | k :: ks, v :: vs => okK k v ∧ okKs ks vs
  | _, _ => False
theorem okKs_len : ∀ {ks : List CK} {vs : List Value}, okKs ks vs → vs.length = ks.length
  | [], [], _ => rfl
  | k :: ks, v :: vs, h => by simp [okKs_len h.2]
  | [], _ :: _, h => h.elim
  | _ :: _, [], h => h.elim
theorem okKs_app : ∀ {ks rs : List CK} {vs us : List Value}, okKs ks vs → okKs rs us → okKs (ks ++ rs) (vs ++ us)
  | [], rs, [], us, _, h => h
  | k :: ks, rs, v :: vs, us, h, h' => ⟨h.1, okKs_app h.2 h'⟩
  | [], _, _ :: _, _, h, _ => h.elim
  | _ :: _, _, [], _, h, _ => h.elim

section
variable {H : Type} {enc : TypeId × Value → H} {P : Program} {w : World} {base : Nat} {sp : Nat → Bool} {held : Bool}

theorem fkFs_sound {g : TypeId → Option (List CK)} {cs : List Value} {tr : TypeId → List Value → Option (DataW H × List MemPlace)} (hg : ∀ t ks vs x, g t = some ks → tr t vs = some x → okKs ks vs) : ∀ (fs : List Field) (o : Nat) (ks : List CK) (xs : List (DataW H × List MemPlace)),
    fkFs P g fs o = some ks → fs.mapM (fun f => tr f.type ((cs.drop f.offset).take (P.cellsOf f.type))) = some xs → (cs.drop o).length = ks.length → okKs ks (cs.drop o)
  | [], o, ks, xs, h, _, hl => by
    simp only [fkFs, Option.some.injEq] at h
    subst h
    have : cs.drop o = [] := List.eq_nil_of_length_eq_zero (by simpa using hl)
    rw [this]; trivial
  | f :: fs, o, ks, xs, h, hm, hl => by
    simp only [fkFs] at h
    split at h
    · rename_i kf hkf
      split at h
      · rename_i hc
        split at h
        · rename_i r hr
          simp only [Option.some.injEq] at h
          subst h
          simp only [List.mapM_cons, Option.bind_eq_bind, Option.bind_eq_some_iff] at hm
          obtain ⟨x, hx, ys, hys, _⟩ := hm
          have h1 := hg _ _ _ _ hkf hx
          have h2 := fkFs_sound hg fs (o + kf.length) r ys hr hys (by simp at hl ⊢; omega)
          rw [hc.1, hc.2] at h1
          have e : cs.drop o = (cs.drop o).take kf.length ++ cs.drop (o + kf.length) := by
            rw [← List.drop_drop]; exact (List.take_append_drop _ _).symm
          rw [e]
          exact okKs_app h1 h2
        · simp at h
      · simp at h
    · simp at h

theorem mapM_at {α β : Type} {f : α → Option β} : ∀ {l : List α} {xs : List β}, l.mapM f = some xs → ∀ a, a ∈ l → ∃ x, f a = some x
  | [], _, _, a, h => by simp at h
  | b :: l, xs, h, a, ha => by
    simp only [List.mapM_cons, Option.bind_eq_bind, Option.bind_eq_some_iff] at h
    obtain ⟨x, hx, ys, hys, _⟩ := h
    rcases List.mem_cons.1 ha with rfl | ha
    · exact ⟨x, hx⟩
    · exact mapM_at hys a ha

theorem okKs_rep {ks : List CK} {cs : List Value} {n : Nat} (h : ∀ i, i < n → okKs ks ((cs.drop (i * ks.length)).take ks.length)) (hl : cs.length = n * ks.length) : ∀ j, j ≤ n → okKs (List.replicate j ks).flatten (cs.drop ((n - j) * ks.length))
  | 0, _ => by
    have : cs.drop ((n - 0) * ks.length) = [] := List.eq_nil_of_length_eq_zero (by simp [hl])
    rw [this]; trivial
  | j + 1, hj => by
    have ih := okKs_rep h hl j (by omega)
    have h1 := h (n - (j + 1)) (by omega)
    simp only [List.replicate_succ, List.flatten_cons]
    have e : cs.drop ((n - (j + 1)) * ks.length) = (cs.drop ((n - (j + 1)) * ks.length)).take ks.length ++ cs.drop ((n - j) * ks.length) := by
      have : (n - j) * ks.length = (n - (j + 1)) * ks.length + ks.length := by
        rw [show n - j = (n - (j + 1)) + 1 by omega, Nat.succ_mul]
      rw [this, ← List.drop_drop]; exact (List.take_append_drop _ _).symm
    rw [e]
    exact okKs_app h1 ih

/-- What a value's cells are, by its type's kinds. -/
theorem trod_flat : ∀ (d : Nat) (t : TypeId) (ks : List CK), fk P d t = some ks → ∀ (fuel : Nat) (cs : List Value) (x : DataW H × List MemPlace), DataW.trod enc P w base sp held fuel t cs = some x → okKs ks cs
  | 0, t, ks, h, _, _, _, _ => by simp [fk] at h
  | d + 1, t, ks, h, 0, cs, x, hx => by simp [DataW.trod] at hx
  | d + 1, t, ks, h, fuel + 1, cs, x, hx => by
    have ih := trod_flat d
    simp only [fk] at h
    split at h
    · rename_i hu
      simp only [Option.some.injEq] at h; subst h
      simp only [DataW.trod, hu] at hx
      split at hx <;> simp_all
      exact ⟨⟨_, rfl⟩, trivial⟩
    · rename_i k hu
      simp only [Option.some.injEq] at h; subst h
      simp only [DataW.trod, hu] at hx
      split at hx <;> simp_all
      exact ⟨⟨_, rfl, hx.1.2⟩, trivial⟩
    · rename_i hu
      simp only [Option.some.injEq] at h; subst h
      simp only [DataW.trod, hu] at hx
      split at hx <;> simp_all
      exact ⟨⟨_, rfl, hx.1⟩, trivial⟩
    · rename_i fs hu
      split at h
      · rename_i ks' hk
        split at h
        · rename_i hc
          simp only [Option.some.injEq] at h; subst h
          have hx' : (if cs.length = P.cellsOf t then (fs.toList.mapM fun f => DataW.trod enc P w base sp held fuel f.type ((cs.drop f.offset).take (P.cellsOf f.type))).map fun xs => (DataW.agg (xs.map (·.1)), xs.flatMap (·.2)) else none) = some x := by
            unfold DataW.trod at hx
            simp only [hu] at hx
            exact hx
          split at hx'
          · rename_i hl
            obtain ⟨xs, hxs, _⟩ := Option.map_eq_some_iff.1 hx'
            have := fkFs_sound (P := P) (g := fk P d) (cs := cs) (tr := DataW.trod enc P w base sp held fuel) (fun t ks vs y h1 h2 => ih t ks h1 fuel vs y h2) fs.toList 0 ks' xs hk hxs (by simp; omega)
            simpa using this
          · simp at hx'
        · simp at h
      · simp at h
    · rename_i n e hu
      split at h
      · rename_i ks' hk
        split at h
        · rename_i hc
          simp only [Option.some.injEq] at h; subst h
          have hx' : (if cs.length = P.cellsOf t then ((List.range n).mapM fun i => DataW.trod enc P w base sp held fuel e ((cs.drop (i * P.cellsOf e)).take (P.cellsOf e))).map fun xs => (DataW.agg (xs.map (·.1)), xs.flatMap (·.2)) else none) = some x := by
            unfold DataW.trod at hx
            simp only [hu] at hx
            exact hx
          split at hx'
          · rename_i hl
            obtain ⟨xs, hxs, _⟩ := Option.map_eq_some_iff.1 hx'
            have hall : ∀ i, i < n → okKs ks' ((cs.drop (i * ks'.length)).take ks'.length) := by
              intro i hi
              obtain ⟨y, hy⟩ := mapM_at hxs i (List.mem_range.2 hi)
              have := ih e ks' hk fuel _ y hy
              rw [hc.1] at this; exact this
            have := okKs_rep hall (by rw [hl, hc.2]) n (Nat.le_refl _)
            simpa using this
          · simp at hx'
        · simp at h
      · simp at h
    · simp at h

/-- A struct, or an array, that comes in. -/
theorem open_agg {d : Nat} {t : TypeId} {ks : List CK} {v : Value} {D : DataW H} {ps : List MemPlace} {b0 : Nat} {r : Reach} (hk : fk P d t = some ks) (hagg : (match P.underlying t with | some (.struct _) | some (.array _ _) => true | _ => false) = true)
    (hval : Value.okWide P w r b0 t v) (hd : DataW.Trod enc P w base sp held t v D ps) : ∃ cs : List Value, v = .agg cs.toArray ∧ okKs ks cs := by
  have : ∃ cs, v = .agg cs := by
    unfold Value.okWide at hval
    split at hval
    · obtain ⟨cs, h, _⟩ := hval; exact ⟨cs, h⟩
    · obtain ⟨cs, h, _⟩ := hval; exact ⟨cs, h⟩
    · rename_i h1 h2
      split at hagg <;> simp_all
  obtain ⟨cs, rfl⟩ := this
  obtain ⟨fuel, hf⟩ := hd
  exact ⟨cs.toList, by simp, trod_flat d t ks hk fuel _ _ hf⟩

/-- An element: an aggregate, or one cell. -/
def mkEl (a : Bool) (z : List Value) : AVal := if a then .agg (z.map ofCell) else (z.map ofCell).getD 0 .undef
theorem cells?_at {a : Addr} {n : Nat} {cs : List Value} (h : w.cells? base a n = some cs) : cs.length = n ∧ ∀ i, i < n → w.cell? (a.add i) = some (cs.getD i Go.undef) := by
  unfold World.cells? at h
  split at h
  · have key : ∀ (l : List Nat) (cs : List Value), l.mapM (fun i => w.cell? (a.add i)) = some cs → cs.length = l.length ∧ ∀ i, i < l.length → w.cell? (a.add (l.getD i 0)) = some (cs.getD i Go.undef) := by
      intro l
      induction l with
      | nil => intro cs h; simp at h; subst h; simp
      | cons x l ih =>
        intro cs h
        simp only [List.mapM_cons, Option.bind_eq_bind, Option.bind_eq_some_iff] at h
        obtain ⟨y, hy, ys, hys, h⟩ := h
        simp at h; subst h
        obtain ⟨k1, k2⟩ := ih ys hys
        refine ⟨by simp [k1], fun i hi => ?_⟩
        cases i with
        | zero => simpa using hy
        | succ i => simpa [List.getD_eq_getElem?_getD] using k2 i (by simpa using hi)
    obtain ⟨k1, k2⟩ := key _ _ h
    refine ⟨by simpa using k1, fun i hi => ?_⟩
    have := k2 i (by simpa using hi)
    simpa [List.getD_eq_getElem?_getD, hi] using this
  · simp at h

/-- A slice that comes in: a list. -/
theorem open_list {d : Nat} {t e : TypeId} {ks : List CK} {agg : Bool} {v : Value} {D : DataW H} {ps : List MemPlace} {b0 : Nat} {r : Reach} (ht : P.underlying t = some (.slice e)) (hk : fk P d e = some ks) (hsz : P.cellsOf e = ks.length) (h0 : 0 < ks.length)
    (hagg : agg = true ∨ ks.length = 1) (hval : Value.okWide P w r b0 t v) (hd : DataW.Trod enc P w base sp held t v D ps) :
    ∃ zs : List (List Value), (∀ z, z ∈ zs → okKs ks z) ∧ zs.length ≤ maxLen ∧ VRel (fun _ => none) w (.list ks.length (zs.map (mkEl agg))) v := by
  have hv : v.cells = #[v] := by
    simp only [Value.okWide, ht, Cell.okWide, Cell.ok] at hval
    cases v <;> simp_all [Value.cells]
  obtain ⟨fuel, hf⟩ := hd
  rw [hv] at hf
  rcases Go.Deep.open_slice ht hf with ⟨h, _⟩ | ⟨a, len, cap, m, n, Dd, Pl, h, hb, hlc, hcm, hm, _, hel⟩
  · simp at h; subst h
    exact ⟨[], by simp, by simp, .list0 _ _ _⟩
  · simp at h; subst h
    have hlm : len ≤ m := by rw [hm]; split <;> omega
    have hex : ∀ i, i < len → ∃ cs', w.cells? base (a.add (i * ks.length)) ks.length = some cs' ∧ okKs ks cs' := by
      intro i hi
      obtain ⟨cs', h1, h2⟩ := hel i (by omega)
      rw [hsz] at h1
      exact ⟨cs', h1, trod_flat d e ks hk n cs' _ h2⟩
    let g : Nat → List Value := fun i => if h : i < len then (hex i h).choose else []
    have hg : ∀ i, i < len → w.cells? base (a.add (i * ks.length)) ks.length = some (g i) ∧ okKs ks (g i) := by
      intro i hi; simp only [g, hi, dif_pos]; exact (hex i hi).choose_spec
    refine ⟨(List.range len).map g, ?_, by simp; omega, ?_⟩
    · intro z hz
      obtain ⟨i, hi, rfl⟩ := List.mem_map.1 hz
      exact (hg i (List.mem_range.1 hi)).2
    · by_cases hl : len = 0
      · subst hl; exact .list0 _ _ _
      · have hview : a.spot = none := by
          have := World.cell?_spot ((cells?_at (hg 0 (by omega)).1).2 0 h0)
          simpa [Addr.add] using this
        obtain ⟨ab, ao, av⟩ := a
        simp only at hview; subst hview
        have hlen : ((List.range len).map g |>.map (mkEl agg)).length = len := by simp
        conv => rhs; rw [← hlen]
        have hget : ∀ i, i < len → (((List.range len).map g).map (mkEl agg)).getD i .undef = mkEl agg (g i) := by
          intro i hi; simp [List.getD_eq_getElem?_getD, hi]
        have hcells : ∀ i, i < len → (mkEl agg (g i)).cells = (g i).map ofCell := by
          intro i hi
          unfold mkEl
          cases agg with
          | true => rfl
          | false =>
            have h1 : (g i).length = 1 := by
              rw [okKs_len (hg i hi).2]
              rcases hagg with h | h
              · cases h
              · exact h
            match hgi : g i, h1 with
            | [x], _ =>
              simp only [List.map_cons, List.map_nil, List.getD_cons_zero, Bool.false_eq_true, if_false]
              unfold ofCell
              split <;> rfl
        refine .list ks.length _ ab ao cap (fun i j => (g i).getD j Go.undef) rfl ?_ (by rw [hlen]; exact hlc) (fun i hi => ?_) (fun i j hi hj => ?_) (fun i j hi hj => ?_)
        · obtain ⟨k1, k2⟩ := cells?_at (hg 0 (by omega)).1
          have := k2 0 h0
          by_cases hlt : ab < w.heap.size
          · exact hlt
          · exfalso
            rw [addr_add, addr_add] at this
            simp [World.cell?, Array.getElem?_eq_none (Nat.le_of_not_lt hlt)] at this
        · rw [hlen] at hi
          rw [hget i hi, hcells i hi, List.length_map, okKs_len (hg i hi).2]
        · rw [hlen] at hi
          obtain ⟨k1, k2⟩ := cells?_at (hg i hi).1
          have := k2 j hj
          rw [addr_add, addr_add, Nat.add_assoc] at this
          exact this
        · rw [hlen] at hi
          rw [hget i hi, hcells i hi]
          have hj' : j < (g i).length := by rw [okKs_len (hg i hi).2]; exact hj
          have : ((g i).map ofCell).getD j .undef = ofCell ((g i).getD j Go.undef) := by
            simp [List.getD_eq_getElem?_getD, hj']
          rw [this]; exact ofCell_rel _ _ _
end
/-- A list of values of one make. -/
theorem list_of {α : Type} {ks : List CK} {agg : Bool} (f : α → AVal) (Q : α → Prop) (h : ∀ z, okKs ks z → ∃ x, mkEl agg z = f x ∧ Q x) : ∀ (zs : List (List Value)), (∀ z, z ∈ zs → okKs ks z) → ∃ l : List α, zs.map (mkEl agg) = l.map f ∧ (∀ x ∈ l, Q x) ∧ l.length = zs.length
  | [], _ => ⟨[], rfl, by simp, rfl⟩
  | z :: zs, hz => by
    obtain ⟨l, h1, h2, h3⟩ := list_of f Q h zs (fun y hy => hz y (by simp [hy]))
    obtain ⟨x, g1, g2⟩ := h z (hz z (by simp))
    exact ⟨x :: l, by simp [h1, g1], by simpa using ⟨g2, h2⟩, by simp [h3]⟩
theorem okKs_nil {vs : List Value} (h : okKs [] vs) : vs = [] := by
  cases vs with
  | nil => rfl
  | cons => exact h.elim
theorem okKs_int {k : IntKind} {ks : List CK} {vs : List Value} (h : okKs (.int k :: ks) vs) : ∃ n r, vs = .int k n :: r ∧ (k.min ≤ n ∧ n ≤ k.max) ∧ okKs ks r := by
  cases vs with
  | nil => exact h.elim
  | cons v r =>
    obtain ⟨⟨n, rfl, hw⟩, h2⟩ := h
    exact ⟨n, r, rfl, by simpa [Lit.wf] using hw, h2⟩
theorem okKs_bool {ks : List CK} {vs : List Value} (h : okKs (.bool :: ks) vs) : ∃ b r, vs = .bool b :: r ∧ okKs ks r := by
  cases vs with
  | nil => exact h.elim
  | cons v r =>
    obtain ⟨⟨b, rfl⟩, h2⟩ := h
    exact ⟨b, r, rfl, h2⟩
end Go.Proofs.Ytcdhihoghkkahaa.Ab
