/- Operations, part six: len, min, max, make, a slice of parts, append, copy. -/
import Derived.Test.YtcdhihoghkkahaaAb6
set_option linter.all false
namespace Go.Proofs.Ytcdhihoghkkahaa.Ab
open Go

def alen (P : Program) (t : TypeId) (x : AVal) : D :=
  match P.underlying t with
  | some (.slice _) => match x with
    | .slice _ _ n _ => .pure True (.int .i64 n)
    | .list _ xs => .pure True (.int .i64 xs.length)
    | .nils => .pure True (.int .i64 0)
    | _ => .fail
  | some (.array n _) => .pure True (.int .i64 n)
  | some (.map _ _) => match x with
    | .nilmap => .pure True (.int .i64 0)
    | .map b => .read b (fun x => match x with | .map _ => True | _ => False) (fun x => match x with | .map es => .int .i64 es.length | _ => .undef)
    | _ => .fail
  | _ => .fail
theorem alen_tells {P : Program} {w : World} {m : Heap} {t ty : TypeId} {x : AVal} {x' : Value} (hs : Sat m w) (hx : VRel m w x x') : Tells P (alen P t x) (Builtin.len_ #[t] ty #[x']) w m := by
  unfold alen
  split
  · rename_i e hu
    split
    · cases hx; exact tells_pure hs (fun _ => ⟨_, by simp only [Builtin.len_, Sem.run_bind, run_underlying hu, Result.andThen_ok, List.getElem?_toArray]; simp [goInt, run_underlying hu], .int _ _⟩)
    · cases hx <;> exact tells_pure hs (fun _ => ⟨_, by simp [Builtin.len_, run_underlying hu, goInt], .int _ _⟩)
    · cases hx; exact tells_pure hs (fun _ => ⟨_, by simp [Builtin.len_, run_underlying hu, goInt], .int _ _⟩)
    · exact tells_fail
  · rename_i n e hu
    exact tells_pure hs (fun _ => ⟨.int .i64 n, by simp [Builtin.len_, run_underlying hu, goInt], .int _ _⟩)
  · rename_i k e hu
    split
    · cases hx; exact tells_pure hs (fun _ => ⟨.int .i64 0, by simp [Builtin.len_, run_underlying hu, goInt], .int _ _⟩)
    · rename_i b
      refine tells_read hs (fun y hy hc => ?_)
      cases y with
      | map es =>
        cases hx
        obtain ⟨ents, clock, h1, _, _, h4, _⟩ := hs b _ hy
        refine ⟨.int .i64 es.length, ?_, .int _ _⟩
        simp [Builtin.len_, run_underlying hu, goInt, getObj, Sem.run, h1, h4]
      | cells => exact hc.elim
      | obj => exact hc.elim
      | loop => exact hc.elim
    · exact tells_fail
  · exact tells_fail

/-! ### min, max -/
/-- The greater, the smaller of two. -/
def imx (x y : Int) : Int := if y > x then y else x
def imn (x y : Int) : Int := if y < x then y else x
def amm (mx : Bool) : List AVal → D
  | [.int k x, .int _ y] => .pure True (.int k (if mx then imx x y else imn x y))
  | _ => .fail
theorem amin_tells {P : Program} {w : World} {m : Heap} {ts : Array TypeId} {ty : TypeId} {xs : List AVal} {xs' : Array Value} (hs : Sat m w) (hl : xs.length = xs'.size) (hx : ∀ i, i < xs.length → VRel m w (xs.getD i .undef) (xs'.getD i Go.undef)) :
    Tells P (amm false xs) (Builtin.min_ ts ty xs') w m ∧ Tells P (amm true xs) (Builtin.max_ ts ty xs') w m := by
  unfold amm
  split
  · rename_i k x k' y
    obtain ⟨l⟩ := xs'
    match l, hl, hx with
    | [p, q], _, hx =>
      have h0 := hx 0 (by simp)
      have h1 := hx 1 (by simp)
      simp at h0 h1
      cases h0; cases h1
      exact ⟨tells_pure hs (fun _ => ⟨_, by simp only [Builtin.min_, List.foldlM_cons, List.foldlM_nil, Builtin.min2]; rfl, .int _ _⟩), tells_pure hs (fun _ => ⟨_, by simp only [Builtin.max_, List.foldlM_cons, List.foldlM_nil, Builtin.max2]; rfl, .int _ _⟩)⟩
  · exact ⟨tells_fail, tells_fail⟩

/-! ### make -/
def rep (n : Nat) (z : List AVal) : List AVal := (List.replicate n z).flatten
theorem rep_length (n : Nat) (z : List AVal) : (rep n z).length = n * z.length := by simp [rep]
theorem rep_one (n : Nat) (v : AVal) : rep n [v] = List.replicate n v := by
  induction n with
  | zero => rfl
  | succ n ih => simp only [rep, List.replicate_succ, List.flatten_cons, List.singleton_append] at ih ⊢; rw [ih]
theorem rep_getD (z : List AVal) : ∀ (n i : Nat), i < n * z.length → (rep n z).getD i .undef = z.getD (i % z.length) .undef
  | 0, i, h => by simp at h
  | n + 1, i, h => by
    simp only [rep, List.replicate_succ, List.flatten_cons]
    by_cases hi : i < z.length
    · rw [Nat.mod_eq_of_lt hi]; simp only [List.getD_eq_getElem?_getD]; rw [List.getElem?_append_left hi]
    · have hz : 0 < z.length := by
        rcases Nat.eq_zero_or_pos z.length with h0 | h0
        · rw [h0] at h; simp at h
        · exact h0
      have e := rep_getD z n (i - z.length) (by rw [Nat.succ_mul] at h; omega)
      have : (z ++ (List.replicate n z).flatten).getD i .undef = (rep n z).getD (i - z.length) .undef := by
        simp only [List.getD_eq_getElem?_getD]; rw [List.getElem?_append_right (by omega)]; rfl
      rw [this, e]
      congr 1
      conv => rhs; rw [show i = (i - z.length) + z.length by omega]
      rw [Nat.add_mod_right]

theorem map_range_zero {α : Type} (f : Nat → α) : (Array.range 0).map f = #[] := by
  apply Array.ext
  · simp
  · intro i h; simp at h
def eb (P : Program) (e : TypeId) : Option Nat := (P.info? e).map (·.bytes)
theorem run_eb {P : Program} {e : TypeId} {n : Nat} (h : eb P e = some n) (w : World) : ∃ i, (typeInfo e).run P w = .ok i w ∧ i.bytes = n := by
  unfold eb at h
  obtain ⟨i, h1, h2⟩ := Option.map_eq_some_iff.1 h
  exact ⟨i, by unfold typeInfo; simp [h1], h2⟩
theorem wrap_small (x : Int) (h0 : 0 ≤ x) (h1 : x < 9223372036854775808) : IntKind.i64.wrap x = x := by
  have e : x % 18446744073709551616 = x := Int.emod_eq_of_lt h0 (by omega)
  simp only [IntKind.wrap, IntKind.bits, IntKind.signed]
  simp only [show (2 : Int) ^ 64 = 18446744073709551616 from rfl, show (2 : Int) ^ (64 - 1) = 9223372036854775808 from rfl, e]
  simp; omega

def amake (P : Program) (t : TypeId) (l c : AVal) : D :=
  match P.underlying t, l, c with
  | some (.slice e), .int _ l, .int _ c => match zc P e, tk P e, eb P e with
    | some z, some (_, n), some b => .alloc (0 ≤ l ∧ l ≤ c ∧ c * b ≤ 281474976710656 ∧ c ≤ 281474976710656 ∧ z.length = n) (.cells (rep c.toNat z) (c.toNat * n)) (fun a => .slice a 0 l.toNat c.toNat)
    | _, _, _ => .fail
  | _, _, _ => .fail
theorem amake_tells {P : Program} {w : World} {m : Heap} {t : TypeId} {l c : AVal} {l' c' : Value} (hs : Sat m w) (hl : VRel m w l l') (hc : VRel m w c c') : Tells P (amake P t l c) (Instr.makeSlice t l' c') w m := by
  unfold amake
  split
  · rename_i e k l k' c hu
    split
    · rename_i z a n b hz ht hb
      refine tells_alloc hs (fun ⟨h0, h1, h2, h3, h4⟩ => ?_)
      cases hl; cases hc
      obtain ⟨i, g1, g2⟩ := run_eb hb w
      obtain ⟨zv, z1, z2, z3⟩ := run_zc hz w
      have wl : IntKind.i64.wrap l = l := wrap_small l h0 (by omega)
      have wc : IntKind.i64.wrap c = c := wrap_small c (by omega) (by omega)
      let arr : Array Value := (Array.range (c.toNat * n)).map fun j => zv.cells.getD (j % zv.cells.size) Go.undef
      refine ⟨.cells arr e, .slice (some ⟨w.heap.size, 0, none⟩) l.toNat c.toNat, ?_, ?_, .slice _ _ _ _⟩
      · have hbb : ¬ ((i.bytes : Int) * c > 281474976710656) := by rw [g2, Int.mul_comm]; omega
        have hll : ¬ (l < 0) := by omega
        have hcc : ¬ (c < 0) := by omega
        have hlc : ¬ (l > c) := by omega
        simp only [Instr.makeSlice, Sem.run_bind, run_underlying hu, Result.andThen_ok, asInt, asIntOf, Sem.run_pure, g1, wl, wc]
        have hcond : (decide (c < 0) || decide ((i.bytes : Int) * c > 2 ^ 48) || decide (l < 0) || decide (l > c)) = false := by
          simp only [show (2 : Int) ^ 48 = 281474976710656 from rfl, hll, hcc, hlc, hbb, decide_false, Bool.or_false]
        simp only [hll, hcc, hlc, show (2 : Int) ^ 48 = 281474976710656 from rfl, hbb, decide_false, Bool.or_false, Bool.false_eq_true, false_or, or_false, if_false, Sem.run_pure, Result.andThen_ok, Sem.run_bind, run_askRoom, run_sizeOf' ht]
        by_cases hn : c.toNat * n = 0
        · have h00 : (Array.range 0).map (fun j => zv.cells.getD (j % zv.cells.size) Go.undef) = #[] := map_range_zero _
          have h01 : (Array.range 0).map (fun j => (#[] : Array Value)[j % (#[] : Array Value).size]!) = #[] := map_range_zero _
          simp only [hn, if_true, Sem.run_pure, Result.andThen_ok, newRow, Sem.run_bind, run_newObj, arr, h00, h01]
          rfl
        · simp only [hn, if_false, Sem.run_bind, z1, Result.andThen_ok, Sem.run_pure]
          simp only [newRow, Sem.run_bind, run_newObj, Result.andThen_ok, Sem.run_pure]
          have hz0 : 0 < zv.cells.size := by
            rw [← z2, h4]; exact Nat.pos_of_ne_zero (fun h => hn (by rw [h]; simp))
          have ha : (Array.range (c.toNat * n)).map (zv.cells[· % zv.cells.size]!) = arr := by
            simp only [arr]
            apply Array.ext
            · simp
            · intro j q1 q2
              have : j % zv.cells.size < zv.cells.size := Nat.mod_lt _ hz0
              simp [Array.getD_eq_getD_getElem?, this]
          rw [ha]; rfl
      · intro m' w' e'
        refine ⟨arr, e, rfl, by simp [arr], by rw [rep_length, h4]; exact Nat.le_refl _, fun j hj => ?_⟩
        rw [rep_length] at hj
        rw [rep_getD z _ _ hj]
        have hzl : 0 < z.length := by
          rcases Nat.eq_zero_or_pos z.length with h0' | h0'
          · rw [h0'] at hj; simp at hj
          · exact h0'
        have hm := Nat.mod_lt j hzl
        have := z3 m' w' (j % z.length) hm
        have ej : arr.getD j Go.undef = zv.cells.getD (j % zv.cells.size) Go.undef := by
          rw [h4] at hj
          simp only [arr, Array.getD_eq_getD_getElem?]
          simp [hj]
        rw [ej, ← z2]; exact this
    · exact tells_fail
  · exact tells_fail

def abuildSlice (P : Program) (t : TypeId) (len : Nat) (parts : List (Nat × AVal)) : D :=
  match P.underlying t with
  | some (.slice e) => match zc P e, tk P e with
    | some z, some (_, n) => match afill (fun i => some (i * n, n)) (rep len z) parts with
      | some r => .alloc (len * n ≤ 16777216 ∧ z.length = n) (.cells r r.length) (fun a => .slice a 0 len len)
      | none => .fail
    | _, _ => .fail
  | _ => .fail
theorem abuildSlice_tells {P : Program} {w : World} {m : Heap} {t : TypeId} {len : Nat} {parts : List (Nat × AVal)} {parts' : Array (Nat × Value)} (hs : Sat m w) (hl : parts.length = parts'.size)
    (hp : ∀ i, i < parts.length → (parts.getD i (0, .undef)).1 = (parts'.toList.getD i (0, Go.undef)).1 ∧ VRel m w (parts.getD i (0, .undef)).2 (parts'.toList.getD i (0, Go.undef)).2) :
    Tells P (abuildSlice P t len parts) (Instr.buildSlice t len parts') w m := by
  unfold abuildSlice
  split
  · rename_i e hu
    split
    · rename_i z a n hz ht
      split
      · rename_i r hr
        refine tells_alloc hs (fun ⟨h0, h4⟩ => ?_)
        obtain ⟨zv, z1, z2, z3⟩ := run_zc hz w
        let arr : Array Value := (Array.range (len * n)).map fun j => zv.cells.getD (j % zv.cells.size) Go.undef
        have harr : ∀ i, i < (rep len z).length → VRel m w ((rep len z).getD i .undef) (arr.getD i Go.undef) := by
          intro j hj
          rw [rep_length] at hj
          rw [rep_getD z _ _ hj]
          have hzl : 0 < z.length := by
            rcases Nat.eq_zero_or_pos z.length with h0' | h0'
            · rw [h0'] at hj; simp at hj
            · exact h0'
          have := z3 m w (j % z.length) (Nat.mod_lt j hzl)
          have ej : arr.getD j Go.undef = zv.cells.getD (j % zv.cells.size) Go.undef := by
            rw [h4] at hj
            simp only [arr, Array.getD_eq_getD_getElem?]
            simp [hj]
          rw [ej, ← z2]; exact this
        obtain ⟨r', g1, g2, g3⟩ := afill_sound (m := m) (w := w) _ _ _ _ hr parts'.toList arr (by simpa using hl) hp (by rw [rep_length, h4]; simp [arr]) harr
        refine ⟨.cells r' e, .slice (some ⟨w.heap.size, 0, none⟩) len len, ?_, brel_cells _ _ _ g2 g3, .slice _ _ _ _⟩
        have hlim : ¬ (len * n > 2 ^ 24) := by simp only [show (2 : Nat) ^ 24 = 16777216 from rfl]; omega
        simp only [Instr.buildSlice, Sem.run_bind, run_underlying hu, Result.andThen_ok, run_sizeOf' ht, hlim, if_false, Sem.run_pure]
        by_cases hn : len * n = 0
        · simp only [hn, if_true, Sem.run_pure, Result.andThen_ok]
          have h01 : (Array.range 0).map (fun j => (#[] : Array Value)[j % (#[] : Array Value).size]!) = #[] := map_range_zero _
          have h00 : arr = #[] := by simp only [arr, hn]; exact map_range_zero _
          rw [h00] at g1
          simp only [h01, g1, Sem.run_bind, newRow, run_newObj, Result.andThen_ok, Sem.run_pure]
          rfl
        · simp only [hn, if_false, Sem.run_bind, z1, Result.andThen_ok, Sem.run_pure]
          have hz0 : 0 < zv.cells.size := by
            rw [← z2, h4]; exact Nat.pos_of_ne_zero (fun h => hn (by rw [h]; simp))
          have ha : (Array.range (len * n)).map (zv.cells[· % zv.cells.size]!) = arr := by
            simp only [arr]
            apply Array.ext
            · simp
            · intro j q1 q2
              have : j % zv.cells.size < zv.cells.size := Nat.mod_lt _ hz0
              simp [Array.getD_eq_getD_getElem?, this]
          rw [ha, g1]
          simp [newRow]
      · exact tells_fail
    · exact tells_fail
  · exact tells_fail

end Go.Proofs.Ytcdhihoghkkahaa.Ab
