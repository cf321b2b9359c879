/- Operations, part seven: append and copy. -/
import Derived.Test.YtcdhihoghkkahaaAb7
set_option linter.all false
namespace Go.Proofs.Ytcdhihoghkkahaa.Ab
open Go

theorem splice_lengthN {cs vs : List AVal} {o : Nat} (h : o ≤ cs.length) : (splice cs o vs).length = o + vs.length + (cs.length - (o + vs.length)) := by
  simp only [splice, List.length_append, List.length_take, List.length_drop]; omega
theorem splice_getDN {cs vs : List AVal} {o : Nat} (h : o ≤ cs.length) (i : Nat) :
    (splice cs o vs).getD i .undef = if i < o then cs.getD i .undef else if i < o + vs.length then vs.getD (i - o) .undef else cs.getD i .undef := by
  have ho : min o cs.length = o := by omega
  simp only [splice, List.getD_eq_getElem?_getD, List.append_assoc, List.getElem?_append, List.length_take, ho, List.getElem?_take, List.getElem?_drop]
  by_cases h1 : i < o
  · simp [h1]
  · by_cases h2 : i < o + vs.length
    · have : i - o < vs.length := by omega
      simp [h1, h2, this]
    · have : ¬ i - o < vs.length := by omega
      simp only [h1, h2, this, if_false]
      congr 2; omega

theorem store_stepN {P : Program} {m : Heap} {w : World} (hs : Sat m w) {p : Nat} {cs : List AVal} {N : Nat} (hp : m p = some (.cells cs N)) (o : Nat) (vs : List AVal) (xs : List Value)
    (hl : vs.length = xs.length) (hv : ∀ i, i < vs.length → VRel m w (vs.getD i .undef) (xs.getD i Go.undef)) (hf : vs.all AVal.flat = true) (hfit : o ≤ cs.length) (hfN : o + vs.length ≤ N) :
    ∃ w', (storeCells ⟨p, o, none⟩ xs).run P w = .ok () w' ∧ Sat (hupd m p (.cells (splice cs o vs) N)) w' ∧ Ext m w (hupd m p (.cells (splice cs o vs) N)) w' := by
  obtain ⟨arr, ty, k1, k2, k3, k4⟩ := hs p _ hp
  have h1 : ∀ v ∈ xs, v.oneCell' = true := by
    intro v hvm
    obtain ⟨i, hi, rfl⟩ := List.getElem_of_mem hvm
    have hi' : i < vs.length := by omega
    have hr := hv i hi'
    have e1 : xs.getD i Go.undef = xs[i] := by simp [List.getD_eq_getElem?_getD, hi]
    rw [e1] at hr
    refine hr.oneCell ?_
    have := List.all_eq_true.1 hf (vs.getD i .undef) (by simp [List.getD_eq_getElem?_getD, hi'])
    exact this
  have hst := run_storeCells_at P p o ty xs 0 arr w k1 (by omega) h1
  simp only [Nat.add_zero] at hst
  refine ⟨_, hst, ?_⟩
  refine write_step hs hp ?_ rfl rfl ⟨rfl, Nat.le_refl _⟩ ?_ ?_
  · simp [World.setRow]
  · intro b hb
    simp only [World.setRow, Array.getElem?_modify]
    rw [if_neg (fun h => hb h.symm)]
  · intro m' w'' e
    have hrow := setRow_heap w p arr ((arr.toList.take o ++ xs ++ arr.toList.drop (o + xs.length)).toArray) ty (0, 0) k1
    rw [hrow]
    refine ⟨_, ty, rfl, ?_, ?_, fun i hi => ?_⟩
    · simp; omega
    · rw [splice_lengthN hfit]; omega
    · rw [splice_lengthN hfit] at hi
      rw [splice_getDN hfit]
      have ho : min o arr.toList.length = o := by simp; omega
      have hx : ((arr.toList.take o ++ xs ++ arr.toList.drop (o + xs.length)).toArray).getD i Go.undef =
          if i < o then arr.getD i Go.undef else if i < o + xs.length then xs.getD (i - o) Go.undef else arr.getD i Go.undef := by
        simp only [Array.getD_eq_getD_getElem?, List.getElem?_toArray, List.append_assoc, List.getElem?_append, List.length_take, ho, List.getElem?_take, List.getElem?_drop]
        by_cases g1 : i < o
        · simp [g1]
        · by_cases g2 : i < o + xs.length
          · have : i - o < xs.length := by omega
            simp [g1, g2, this, List.getD_eq_getElem?_getD]
          · have : ¬ i - o < xs.length := by omega
            simp only [g1, g2, this, if_false]
            simp
            congr 2; omega
      rw [hx, ← hl]
      by_cases g1 : i < o
      · simp only [g1, if_true]; exact (k4 i (by omega)).ext e
      · by_cases g2 : i < o + vs.length
        · simp only [g1, g2, if_true, if_false]; exact (hv (i - o) (by omega)).ext e
        · simp only [g1, g2, if_false]; exact (k4 i (by omega)).ext e

/-- The cells of what is appended, or copied. -/
def src (sz : Nat) (m : Heap) : AVal → (Nat → List AVal → Prop) → Prop
  | .nils, k => k 0 []
  | .list sz' xs, k => sz' = sz ∧ k xs.length (xs.flatMap AVal.cells)
  | .slice b o n _, k => match m b with
    | some (.cells cs _) => o + n * sz ≤ cs.length ∧ k n ((cs.drop o).take (n * sz))
    | _ => False
  | _, _ => False

theorem flatMap_cells (sz : Nat) : ∀ (xs : List AVal), (∀ i, i < xs.length → (xs.getD i .undef).cells.length = sz) →
    (xs.flatMap AVal.cells).length = xs.length * sz ∧ ∀ k, k < xs.length * sz → (xs.flatMap AVal.cells).getD k .undef = ((xs.getD (k / sz) .undef).cells.getD (k % sz) .undef)
  | [], h => by simp
  | x :: xs, h => by
    have h0 : x.cells.length = sz := by simpa using h 0 (by simp)
    obtain ⟨g1, g2⟩ := flatMap_cells sz xs (fun i hi => by simpa [List.getD_eq_getElem?_getD] using h (i + 1) (by simp; omega))
    refine ⟨by simp only [List.flatMap_cons, List.length_append, List.length_cons, g1, h0]; rw [Nat.succ_mul]; omega, fun k hk => ?_⟩
    simp only [List.flatMap_cons]
    have hsz : 0 < sz := by
      rcases Nat.eq_zero_or_pos sz with h' | h'
      · rw [h'] at hk; simp at hk
      · exact h'
    by_cases hlt : k < sz
    · rw [Nat.div_eq_of_lt hlt, Nat.mod_eq_of_lt hlt]
      simp only [List.getD_eq_getElem?_getD]
      rw [List.getElem?_append_left (by omega)]; rfl
    · have e1 : (x.cells ++ xs.flatMap AVal.cells).getD k .undef = (xs.flatMap AVal.cells).getD (k - sz) .undef := by
        simp only [List.getD_eq_getElem?_getD]
        rw [List.getElem?_append_right (by omega), h0]
      rw [e1, g2 (k - sz) (by simp only [List.length_cons] at hk; rw [Nat.succ_mul] at hk; omega)]
      have e2 : k / sz = (k - sz) / sz + 1 := by
        have : k = (k - sz) + sz := by omega
        conv => lhs; rw [this]
        rw [Nat.add_div_right _ hsz]
      have e3 : k % sz = (k - sz) % sz := by
        have : k = (k - sz) + sz := by omega
        conv => lhs; rw [this]
        rw [Nat.add_mod_right]
      rw [e2, e3]
      simp [List.getD_eq_getElem?_getD]

/-- What 'src' tells: the length, and the first cells as the model reads them. -/
theorem src_sound {P : Program} {m : Heap} {w : World} {sz : Nat} {x : AVal} {x' : Value} {k : Nat → List AVal → Prop} (hs : Sat m w) (hx : VRel m w x x') (h : src sz m x k) :
    ∃ n ys, k n ys ∧ src sz m x (fun n' ys' => n' = n ∧ ys' = ys) ∧ ys.length = n * sz ∧ (Builtin.lenOf x').run P w = .ok n w ∧
      ∀ n', n' ≤ n → ∃ zs : Array Value, (Builtin.firstCells sz n' x').run P w = .ok zs w ∧ zs.size = n' * sz ∧ ∀ i, i < n' * sz → VRel m w (ys.getD i .undef) (zs.getD i Go.undef) := by
  cases x with
  | nils =>
    cases hx
    refine ⟨0, [], h, ⟨rfl, rfl⟩, by simp, rfl, fun n' hn => ?_⟩
    have h0 : n' = 0 := by omega
    subst h0
    exact ⟨#[], by simp [Builtin.firstCells], by simp, fun i hi => by simp at hi⟩
  | list sz' xs =>
    obtain ⟨rfl, h⟩ := h
    cases hx with
    | list0 _ a cap =>
      refine ⟨0, [], by simpa using h, ⟨rfl, rfl, rfl⟩, by simp, rfl, fun n' hn => ?_⟩
      have h0 : n' = 0 := by omega
      subst h0
      cases a with
      | none => exact ⟨#[], by simp [Builtin.firstCells], by simp, fun i hi => by simp at hi⟩
      | some a =>
        refine ⟨#[], ?_, by simp, fun i hi => by simp at hi⟩
        simp [Builtin.firstCells, loadCells, loadCellsFrom]
    | list _ _ b off cap f hm hb hcap hsz hc hv =>
      obtain ⟨g1, g2⟩ := flatMap_cells sz' xs hsz
      refine ⟨xs.length, xs.flatMap AVal.cells, h, ⟨rfl, rfl, rfl⟩, g1, rfl, fun n' hn => ?_⟩
      have hcell : ∀ i, i < (xs.flatMap AVal.cells).length → ∃ x, w.cell? ⟨b, off + i, none⟩ = some x ∧ VRel m w ((xs.flatMap AVal.cells).getD i .undef) x := by
        intro i hi
        rw [g1] at hi
        have hsz0 : 0 < sz' := by
          rcases Nat.eq_zero_or_pos sz' with h' | h'
          · rw [h'] at hi; simp at hi
          · exact h'
        have hdiv : i / sz' < xs.length := (Nat.div_lt_iff_lt_mul hsz0).2 hi
        have hmod := Nat.mod_lt i hsz0
        refine ⟨f (i / sz') (i % sz'), ?_, ?_⟩
        · have := hc _ _ hdiv hmod
          rw [Nat.mul_comm, Nat.div_add_mod] at this
          exact this
        · rw [g2 i hi]; exact hv _ _ hdiv hmod
      have hle : n' * sz' ≤ (xs.flatMap AVal.cells).length := by rw [g1]; exact Nat.mul_le_mul_right _ hn
      obtain ⟨zs, z1, z2, z3⟩ := run_loadCells' (P := P) (m := m) b off 0 (n' * sz') (xs.flatMap AVal.cells) (by omega) hcell
      refine ⟨zs, by simpa [Builtin.firstCells] using z1, z2, fun i hi => ?_⟩
      have := z3 i hi
      simpa [List.getD_eq_getElem?_getD, List.getElem?_take, hi] using this
  | slice b o n cap =>
    cases hx
    simp only [src] at h
    split at h
    · rename_i cs N hb
      obtain ⟨h0, h⟩ := h
      refine ⟨n, (cs.drop o).take (n * sz), h, by simp only [src, hb]; exact ⟨h0, trivial, trivial⟩, by simp; omega, rfl, fun n' hn => ?_⟩
      have hle : n' * sz ≤ n * sz := Nat.mul_le_mul_right _ hn
      obtain ⟨zs, z1, z2, z3⟩ := run_loadCells' (P := P) (m := m) b 0 o (n' * sz) cs (by omega) (cells_at (hs b _ hb))
      refine ⟨zs, by simpa [Builtin.firstCells] using z1, z2, fun i hi => ?_⟩
      have := z3 i hi
      have hi2 : i < n * sz := by omega
      simpa [List.getD_eq_getElem?_getD, List.getElem?_take, hi, hi2] using this
    · exact h.elim
  | _ => exact h.elim

def zl (P : Program) (e : TypeId) : Option Nat := (zc P e).map List.length
def isInt (P : Program) (t : TypeId) : Bool := match P.underlying t with
  | some (.int _) => true
  | _ => false
/-- What is appended: so many elements, and their cells. -/
def appSrc (P : Program) (xt e : TypeId) (sz bytes : Nat) (m : Heap) (x : AVal) (k : Nat → List AVal → Prop) : Prop :=
  if isInt P xt then match x with
    | .int _ l => match zc P e with
      | some z => 0 ≤ l ∧ l * bytes ≤ 1099511627776 ∧ l ≤ 1099511627776 ∧ z.length = sz ∧ k l.toNat (rep l.toNat z)
      | none => False
    | _ => False
  else src sz m x k

/-- What append comes to at a slice, if n elements with the cells ys are appended. -/
def appTo (sz by' n : Nat) (ys : List AVal) (s : AVal) (m : Heap) (K : AVal → Heap → Prop) : Prop :=
      match s with
      | .nils => (n = 0 → K .nils m) ∧ (0 < n → n * by' ≤ 1099511627776 ∧ ∀ b cap, m b = none → n ≤ cap → K (.slice b 0 n cap) (hupd m b (.cells ys (cap * sz))))
      | .slice b o len cap => match m b with
        | some (.cells cs N) => (o + len * sz ≤ cs.length ∧ o + cap * sz ≤ N) ∧
          (len + n ≤ cap → K (.slice b o (len + n) cap) (hupd m b (.cells (splice cs (o + len * sz) ys) N))) ∧
          (cap < len + n → (len + n) * by' ≤ 1099511627776 ∧ ∀ b' cap', m b' = none → len + n ≤ cap' → K (.slice b' 0 (len + n) cap') (hupd m b' (.cells ((cs.drop o).take (len * sz) ++ ys) (cap' * sz))))
        | _ => False
      | _ => False

def aappend (P : Program) (st xt : TypeId) (s x : AVal) (m : Heap) (K : AVal → Heap → Prop) : Prop :=
  match P.underlying st with
  | some (.slice e) => match tk P e, eb P e with
    | some (_, sz), some by' => (0 < by' ∧ (P.underlying xt).isSome = true ∧ zl P e = some sz) ∧ appSrc P xt e sz by' m x fun n ys => ys.all AVal.flat = true ∧ appTo sz by' n ys s m K
    | _, _ => False
  | _ => False

theorem growBy_le : ∀ (rounds n c : Nat), Builtin.growBy n rounds c ≤ max c (n + (n + 768) / 4)
  | 0, n, c => by simp [Builtin.growBy]; omega
  | r + 1, n, c => by
    simp only [Builtin.growBy]
    split
    · omega
    · have := growBy_le r n (c + (c + 768) / 4)
      omega
theorem nextslicecap_le (n c : Nat) (h : c < n) : Builtin.nextslicecap n c ≤ 2 * n + 192 := by
  unfold Builtin.nextslicecap
  split
  · omega
  · split
    · omega
    · have := growBy_le 4 n c; omega

theorem draw_step {m : Heap} {w : World} (hs : Sat m w) : Sat m w.drew ∧ Ext m w m w.drew := by
  have e : Ext m w m w.drew := ⟨Nat.le_refl _, rfl, rfl, ⟨rfl, Nat.le_succ _⟩, fun _ _ h => ⟨rfl, h⟩⟩
  exact ⟨fun b x hx => (hs b x hx).ext e, e⟩


/-- The model's append, behind the reckoning of what is appended. -/
def appBack (e : TypeId) (size : Nat) (zeros : Bool) (n : Nat) (appended : Sem (Array Value)) (s x : Value) (base : Option Addr) (sLen sCap : Nat) : Sem Value := do
  let need := sLen + n
  if need ≤ sCap then
    let new ← appended
    if let some a := base then storeCells (a.add (sLen * size)) new.toList
    pure (.slice base need sCap)
  else
    if (need : Int) > IntKind.i64.max ∧ (zeros ∨ (← typeInfo e).bytes = 0) then runtimePanic (.error "growslice: len out of range")
    if Builtin.nextslicecap need sCap * (← typeInfo e).bytes > 2 ^ 48 then (if zeros then runtimePanic (.error "growslice: len out of range") else do
      if !(← Builtin.mayShare size sLen n base x) then mark .noRoom
      unsupported (.resourceLimit "append: a slice or a string whose bytes no memory bears"))
    let newCap ← choose (.appendCap need sCap e)
    askRoom (newCap * (← typeInfo e).bytes)
    let old ← Builtin.firstCells size sLen s
    let new ← appended
    let rest := Builtin.zeroCells (← zeroValue e).cells (newCap - need)
    pure (.slice (some (← newRow e (old ++ new ++ rest))) need newCap)

theorem append_zeros {P : Program} {w : World} {st xt ty e : TypeId} {k k' : IntKind} {base : Option Addr} {sLen sCap sz by' : Nat} {a : Bool} {l : Int} (hu : P.underlying st = some (.slice e)) (ht : tk P e = some (a, sz))
    (hx : P.underlying xt = some (.int k)) (hb : eb P e = some by') (h0 : 0 ≤ l) (h1 : l * by' ≤ 281474976710656) (h2 : l < 9223372036854775808) :
    (Builtin.append_ #[st, xt] ty #[.slice base sLen sCap, .int k' l]).run P w =
      (appBack e sz true l.toNat (if l.toNat * sz = 0 then pure #[] else do pure (Builtin.zeroCells (← zeroValue e).cells l.toNat)) (.slice base sLen sCap) (.int k' l) base sLen sCap).run P w := by
  obtain ⟨i, g1, g2⟩ := run_eb hb w
  have wl : IntKind.i64.wrap l = l := wrap_small l h0 h2
  have hl0 : ¬ l < 0 := by omega
  have hl1 : ¬ (l * (i.bytes : Int) > 2 ^ 48) := by rw [g2]; simp only [show (2 : Int) ^ 48 = 281474976710656 from rfl]; omega
  unfold Builtin.append_
  simp only [List.getElem?_toArray, List.getElem?_cons_zero, List.getElem?_cons_succ, Sem.run_bind, run_underlying hu, run_underlying hx, Result.andThen_ok, run_sizeOf' ht, Sem.run_pure, asInt, asIntOf, wl, g1, if_true, hl0, hl1, if_false, appBack, Bool.not_true, Bool.false_eq_true, true_or]
  first | rfl | (congr 1; done) | (split <;> rfl)
theorem notInt (d : TypeDesc) (h : ∀ k, d ≠ .int k) : (match d with | .int _ => true | _ => false) = false := by
  cases d <;> first | rfl | exact absurd rfl (h _)
theorem append_src {P : Program} {w : World} {st xt ty e : TypeId} {base : Option Addr} {sLen sCap sz n : Nat} {a : Bool} {x : Value} {d : TypeDesc} (hu : P.underlying st = some (.slice e)) (ht : tk P e = some (a, sz))
    (hx : P.underlying xt = some d) (hd : ∀ k, d ≠ .int k) (hn : (Builtin.lenOf x).run P w = .ok n w) :
    (Builtin.append_ #[st, xt] ty #[.slice base sLen sCap, x]).run P w =
      (appBack e sz false n (Builtin.firstCells sz n x) (.slice base sLen sCap) x base sLen sCap).run P w := by
  have hd' := notInt d hd
  unfold Builtin.append_
  simp only [List.getElem?_toArray, List.getElem?_cons_zero, List.getElem?_cons_succ, Sem.run_bind, run_underlying hu, run_underlying hx, Result.andThen_ok, run_sizeOf' ht, Sem.run_pure, hd', Bool.false_eq_true, if_false, hn, appBack, Bool.not_false, if_true]
  first | rfl | (congr 1; done) | (split <;> rfl)


/-- What append does, once it is told what is appended. -/
theorem appBack_ends {P : Program} {w : World} {m : Heap} {e : TypeId} {sz by' n : Nat} {a zeros : Bool} {app : Sem (Array Value)} {s : AVal} {x' : Value} {base : Option Addr} {sLen sCap : Nat} {ys : List AVal} {K : AVal → Heap → Prop}
    (hs : Sat m w) (ht : tk P e = some (a, sz)) (hb : eb P e = some by') (hby : 0 < by') (hz : zl P e = some sz) (hsv : VRel m w s (.slice base sLen sCap)) (hlen : ys.length = n * sz) (hfl : ys.all AVal.flat = true)
    (happ : ∀ w1, Sat m w1 → Ext m w m w1 → ∃ zs : Array Value, app.run P w1 = .ok zs w1 ∧ zs.size = n * sz ∧ ∀ i, i < n * sz → VRel m w1 (ys.getD i .undef) (zs.getD i Go.undef))
    (hK : appTo sz by' n ys s m K) :
    Ends P (appBack e sz zeros n app (.slice base sLen sCap) x' base sLen sCap) w m K := by
  obtain ⟨z, hz, hzs⟩ := Option.map_eq_some_iff.1 hz
  have hgrow : ∀ (os : List AVal), sCap < sLen + n → (sLen + n) * by' ≤ 1099511627776 → os.length = sLen * sz →
      (∀ w1, Sat m w1 → Ext m w m w1 → ∃ zs : Array Value, (Builtin.firstCells sz sLen (.slice base sLen sCap)).run P w1 = .ok zs w1 ∧ zs.size = sLen * sz ∧ ∀ i, i < sLen * sz → VRel m w1 (os.getD i .undef) (zs.getD i Go.undef)) →
      (∀ b' cap', m b' = none → sLen + n ≤ cap' → K (.slice b' 0 (sLen + n) cap') (hupd m b' (.cells (os ++ ys) (cap' * sz)))) →
      Ends P (appBack e sz zeros n app (.slice base sLen sCap) x' base sLen sCap) w m K := by
    intro os hcap hlim hos hold hk
    obtain ⟨i, g1, g2⟩ := run_eb hb w
    have hcap' : ¬ sLen + n ≤ sCap := by omega
    have hneed : sLen + n ≤ 1099511627776 := by
      have := Nat.le_mul_of_pos_right (sLen + n) hby; omega
    have hmax : IntKind.i64.max = 9223372036854775807 := by decide
    have h1 : ¬ (((sLen + n : Nat) : Int) > IntKind.i64.max ∧ (zeros = true ∨ i.bytes = 0)) := by rw [hmax]; omega
    have h2 : ¬ (Builtin.nextslicecap (sLen + n) sCap * i.bytes > 2 ^ 48) := by
      have q0 : 0 < sLen + n := by omega
      rw [g2]
      simp only [show (2 : Nat) ^ 48 = 281474976710656 from rfl]
      generalize sLen + n = S at *
      have q1 := nextslicecap_le S sCap hcap
      have q2 : Builtin.nextslicecap S sCap * by' ≤ (2 * S + 192) * by' := Nat.mul_le_mul_right _ q1
      have q3 : by' ≤ S * by' := Nat.le_mul_of_pos_left _ q0
      rw [Nat.add_mul, Nat.mul_assoc] at q2
      omega
    obtain ⟨d1, d2⟩ := draw_step hs
    obtain ⟨newCap, hnc, hcut⟩ : ∃ newCap, sLen + n ≤ newCap ∧ (choose (.appendCap (sLen + n) sCap e)).run P w = .ok newCap w.drew := by
      refine ⟨Question.cut (.appendCap (sLen + n) sCap e) (w.tape w.drawn (.appendCap (sLen + n) sCap e)), by simp [Question.cut], ?_⟩
      simp [Question.forced]
    obtain ⟨olds, o1, o2, o3⟩ := hold w.drew d1 d2
    obtain ⟨news, n1, n2, n3⟩ := happ w.drew d1 d2
    obtain ⟨zv, z1, z2, z3⟩ := run_zc hz w.drew
    obtain ⟨i', g1', g2'⟩ := run_eb hb w.drew
    let rest := Builtin.zeroCells zv.cells (newCap - (sLen + n))
    have hrun : (appBack e sz zeros n app (.slice base sLen sCap) x' base sLen sCap).run P w = .ok (.slice (some ⟨w.drew.heap.size, 0, none⟩) (sLen + n) newCap) (w.drew.alloc (.cells (olds ++ news ++ rest) e)) := by
      unfold appBack
      simp only [hcap', if_false, Sem.run_bind, g1, Result.andThen_ok, h1, h2, hcut, g1', run_askRoom, o1, n1, z1, newRow, run_newObj, Sem.run_pure, rest]
      rfl
    obtain ⟨k1, k2⟩ := alloc_step d1 (.cells (olds ++ news ++ rest) e) (.cells (os ++ ys) (newCap * sz)) (fun m' w' ee => by
      refine ⟨_, e, rfl, ?_, ?_, fun j hj => ?_⟩
      · simp [o2, n2, rest, Builtin.zeroCells, ← z2, hzs]
        rw [← Nat.add_mul, ← Nat.add_mul]; congr 1; omega
      · simp [hos, hlen]; rw [← Nat.add_mul]; exact Nat.mul_le_mul_right _ hnc
      · simp only [List.length_append, hos, hlen] at hj
        by_cases hj1 : j < sLen * sz
        · have e1 : (os ++ ys).getD j .undef = os.getD j .undef := by
            simp only [List.getD_eq_getElem?_getD]; rw [List.getElem?_append_left (by omega)]
          have e2 : (olds ++ news ++ rest).getD j Go.undef = olds.getD j Go.undef := by
            simp only [Array.getD_eq_getD_getElem?]
            rw [Array.getElem?_append_left (by simp; omega), Array.getElem?_append_left (by omega)]
          rw [e1, e2]; exact (o3 j hj1).ext ee
        · have e1 : (os ++ ys).getD j .undef = ys.getD (j - sLen * sz) .undef := by
            simp only [List.getD_eq_getElem?_getD]; rw [List.getElem?_append_right (by omega), hos]
          have e2 : (olds ++ news ++ rest).getD j Go.undef = news.getD (j - sLen * sz) Go.undef := by
            simp only [Array.getD_eq_getD_getElem?]
            rw [Array.getElem?_append_left (by simp; omega), Array.getElem?_append_right (by omega), o2]
          rw [e1, e2]; exact (n3 _ (by omega)).ext ee)
    exact ⟨_, _, _, _, hrun, hk _ newCap d1.fresh hnc, .slice _ _ _ _, k1, d2.trans k2⟩
  cases s with
  | nils =>
    cases hsv
    simp only [appTo] at hK
    obtain ⟨hk0, hk1⟩ := hK
    by_cases hn : n = 0
    · subst hn
      obtain ⟨zs, n1, n2, n3⟩ := happ w hs (Ext.refl _ _)
      refine ⟨.slice none 0 0, w, .nils, m, ?_, hk0 rfl, .nils, hs, Ext.refl _ _⟩
      unfold appBack
      simp [n1]
    · obtain ⟨q1, q2⟩ := hk1 (by omega)
      refine hgrow [] (by omega) (by simpa using q1) (by simp) (fun w1 _ _ => ⟨#[], by simp [Builtin.firstCells], by simp, fun i hi => by simp at hi⟩) ?_
      intro b' cap' hb' hc'
      simpa using q2 b' cap' hb' (by omega)
  | slice b o len cap =>
    cases hsv
    simp only [appTo] at hK
    split at hK
    · rename_i cs N hbm
      obtain ⟨⟨f1, f2⟩, hk0, hk1⟩ := hK
      by_cases hle : sLen + n ≤ sCap
      · obtain ⟨zs, n1, n2, n3⟩ := happ w hs (Ext.refl _ _)
        have hcapn : (sLen + n) * sz ≤ sCap * sz := Nat.mul_le_mul_right _ hle
        rw [Nat.add_mul] at hcapn
        obtain ⟨w', r1, r2, r3⟩ := store_stepN (P := P) hs hbm (o + sLen * sz) ys zs.toList (by simp; omega)
          (fun i hi => by
            have := n3 i (by omega)
            simpa [Array.getD_eq_getD_getElem?, List.getD_eq_getElem?_getD] using this) hfl f1 (by omega)
        refine ⟨.slice (some ⟨b, o, none⟩) (sLen + n) sCap, w', _, _, ?_, hk0 hle, .slice _ _ _ _, r2, r3⟩
        unfold appBack
        simp only [hle, if_true, Sem.run_bind, n1, Result.andThen_ok, addr_add, r1, Sem.run_pure]
      · obtain ⟨q1, q2⟩ := hk1 (by omega)
        refine hgrow ((cs.drop o).take (sLen * sz)) (by omega) q1 (by simp; omega) (fun w1 s1 e1 => ?_) q2
        obtain ⟨xs, x1, x2, x3⟩ := run_loadCells' (P := P) (m := m) b 0 o (sLen * sz) cs f1 (cells_at (s1 b _ hbm))
        exact ⟨xs, by simpa [Builtin.firstCells] using x1, x2, x3⟩
    · exact hK.elim
  | _ => exact hK.elim

theorem aappend_tells {P : Program} {w : World} {m : Heap} {st xt ty : TypeId} {s x : AVal} {s' x' : Value} (hs : Sat m w) (hsv : VRel m w s s') (hxv : VRel m w x x') :
    Tells P (.eff (aappend P st xt s x)) (Builtin.append_ #[st, xt] ty #[s', x']) w m := by
  intro K hK
  simp only [D.run] at hK
  unfold aappend at hK
  split at hK
  case h_2 => exact hK.elim
  rename_i e hu
  split at hK
  case h_2 => exact hK.elim
  rename_i a sz by' ht hb
  obtain ⟨⟨hby, hxt, hz⟩, hK⟩ := hK
  obtain ⟨dx, hdx⟩ := Option.isSome_iff_exists.1 hxt
  unfold appSrc at hK
  -- the slice that is appended to
  have hsl : ∀ n (ys : List AVal), appTo sz by' n ys s m K → ∃ base sLen sCap, s' = .slice base sLen sCap := by
    intro n ys h
    cases s with
    | nils => cases hsv; exact ⟨_, _, _, rfl⟩
    | slice => cases hsv; exact ⟨_, _, _, rfl⟩
    | _ => exact h.elim
  split at hK
  · rename_i hint
    have hdk : ∃ k, P.underlying xt = some (.int k) := by
      unfold isInt at hint
      split at hint
      · rename_i k hk; exact ⟨k, hk⟩
      · simp at hint
    obtain ⟨k, hk⟩ := hdk
    cases x with
    | int k' l =>
      simp only at hK
      split at hK
      · rename_i z hzz
        obtain ⟨l0, l1, l2, hzl, hfl, hK⟩ := hK
        obtain ⟨base, sLen, sCap, rfl⟩ := hsl _ _ hK
        cases hxv
        have hends := appBack_ends (P := P) (w := w) (m := m) (n := l.toNat) (zeros := true) (x' := .int k' l) (K := K) (app := (if l.toNat * sz = 0 then pure #[] else do pure (Builtin.zeroCells (← zeroValue e).cells l.toNat)))
          hs ht hb hby hz hsv (by rw [rep_length, hzl]) hfl (fun w1 s1 e1 => ?_) hK
        · obtain ⟨x, w', v, m', r, q⟩ := hends
          refine ⟨x, w', v, m', ?_, q⟩
          rw [append_zeros hu ht hk hb l0 (by omega) (by omega)]
          exact r
        · obtain ⟨zv, z1, z2, z3⟩ := run_zc hzz w1
          by_cases h0 : l.toNat * sz = 0
          · exact ⟨#[], by simp [h0], by simp [h0], fun i hi => by omega⟩
          · refine ⟨Builtin.zeroCells zv.cells l.toNat, by simp only [h0, if_false, Sem.run_bind, z1, Result.andThen_ok, Sem.run_pure], by simp [Builtin.zeroCells, ← z2, hzl], fun i hi => ?_⟩
            have hsz : 0 < z.length := by
              rcases Nat.eq_zero_or_pos z.length with h' | h'
              · rw [← hzl, h'] at h0; simp at h0
              · exact h'
            rw [rep_getD z _ _ (by rw [hzl]; exact hi)]
            have hm := Nat.mod_lt i hsz
            have := z3 m w1 (i % z.length) hm
            have e2 : (Builtin.zeroCells zv.cells l.toNat).getD i Go.undef = zv.cells.getD (i % zv.cells.size) Go.undef := by
              have hi' : i < l.toNat * zv.cells.size := by rw [← z2, hzl]; exact hi
              have hm' : i % zv.cells.size < zv.cells.size := by rw [← z2]; exact hm
              simp [Builtin.zeroCells, Array.getD_eq_getD_getElem?, hi', hm']
            rw [e2, ← z2]; exact this
      · exact hK.elim
    | _ => exact hK.elim
  · rename_i hint
    have hdk : ∀ k, dx ≠ .int k := by
      rintro k rfl
      unfold isInt at hint
      rw [hdx] at hint
      exact hint rfl
    obtain ⟨n, ys, ⟨hfl, hK⟩, hsame, hlen, hn, hcells⟩ := src_sound (P := P) hs hxv hK
    obtain ⟨base, sLen, sCap, rfl⟩ := hsl _ _ hK
    have hends := appBack_ends (P := P) (w := w) (m := m) (n := n) (zeros := false) (x' := x') (K := K) (app := Builtin.firstCells sz n x') hs ht hb hby hz hsv hlen hfl (fun w1 s1 e1 => ?_) hK
    · obtain ⟨x, w', v, m', r, q⟩ := hends
      refine ⟨x, w', v, m', ?_, q⟩
      rw [append_src hu ht hdx hdk hn]
      exact r
    · obtain ⟨n', ys', ⟨rfl, rfl⟩, _, _, _, hc⟩ := src_sound (P := P) s1 (hxv.ext e1) hsame
      exact hc n' (Nat.le_refl _)

end Go.Proofs.Ytcdhihoghkkahaa.Ab
