/- Code in the abstract view; a function's contract from its body. -/
import Derived.Test.YtcdhihoghkkahaaAb11
set_option linter.all false
namespace Go.Proofs.Ytcdhihoghkkahaa.Ab
open Go

/-- Where the walk of a piece of code ends. -/
def QL (N B : Nat) (m : Heap) (w : World) (Q : Exit → TS → Heap → Prop) : Exit → Act → World → Prop :=
  fun e a' w' => ∃ ts' m', Q e ts' m' ∧ Sat m' w' ∧ TRel N m' w' ts' a' ∧ Ext m w m' w' ∧ DefOK B m' w' a'.defers
/-- A piece of code, from every state that goes with ts and m. -/
def AWP (P : Program) (G : Nat → AVal) (N : Nat) (r : Option Nat) (c : Code) (Q : Exit → TS → Heap → Prop) (ts : TS) (m : Heap) : Prop :=
  ∀ (B : Nat) (w : World) (a : Act), B ≤ w.heap.size → Sat m w → GOk G m w → TRel N m w ts a → DefOK B m w a.defers → c.wpIn (W r) 0 P (QL N B m w Q) a w

theorem QL.mono {N B : Nat} {m : Heap} {w : World} {Q Q' : Exit → TS → Heap → Prop} (h : ∀ e ts m, Q e ts m → Q' e ts m) {e : Exit} {a : Act} {w' : World} (hq : QL N B m w Q e a w') : QL N B m w Q' e a w' := by
  obtain ⟨ts', m', h1, h2⟩ := hq; exact ⟨ts', m', h _ _ _ h1, h2⟩
theorem AWP.mono {P : Program} {G : Nat → AVal} {N : Nat} {r : Option Nat} {c : Code} {Q Q' : Exit → TS → Heap → Prop} {ts : TS} {m : Heap} (h : AWP P G N r c Q ts m) (hq : ∀ e ts m, Q e ts m → Q' e ts m) : AWP P G N r c Q' ts m :=
  fun B w a hB hs hg ht hd => wpIn_mono (h B w a hB hs hg ht hd) fun _ _ _ => QL.mono hq
theorem QL.trans {N B : Nat} {m m1 : Heap} {w w1 : World} {Q : Exit → TS → Heap → Prop} (e : Ext m w m1 w1) {x : Exit} {a : Act} {w' : World} (h : QL N B m1 w1 Q x a w') : QL N B m w Q x a w' := by
  obtain ⟨ts', m', h1, h2, h3, h4, h5⟩ := h; exact ⟨ts', m', h1, h2, h3, e.trans h4, h5⟩

/-! ### Operations in the text's order -/
def dstOk (N : Nat) : Option Nat → Prop
  | none => True
  | some d => d < N
/-- Is an operation carried out? -/
def wantA (ops : Array Oper) (ts : TS) (o : Oper) (yes no : Prop) : Prop := match o.guard with
  | none => yes
  | some (j, want) => match (ops[j]?).bind (·.dst) with
    | none => no
    | some d => match ts d with
      | .bool b => (b = want → yes) ∧ (b = !want → no)
      | .tuple _ => no
      | _ => False
def runOps (P : Program) (G : Nat → AVal) (N : Nat) (ops : Array Oper) : List Oper → TS → Heap → (TS → Heap → Prop) → Prop
  | [], ts, m, K => K ts m
  | o :: rest, ts, m, K => dstOk N o.dst ∧ wantA ops ts o (opGo P G (ev G ts) o.op m fun v m' => runOps P G N ops rest (put ts o.dst v) m' K) (runOps P G N ops rest (put ts o.dst (.tuple [])) m K)

theorem wanted_of {N : Nat} {ops : Array Oper} {ts : TS} {o : Oper} {yes no : Prop} {m : Heap} {w : World} {a : Act} (ht : TRel N m w ts a) (h : wantA ops ts o yes no) :
    (Region.wanted o (yielded ops a.tmps) = true ∧ yes) ∨ (Region.wanted o (yielded ops a.tmps) = false ∧ no) := by
  unfold wantA at h
  unfold Region.wanted yielded
  split at h
  · rename_i hg; rw [hg]; exact .inl ⟨rfl, h⟩
  · rename_i j want hg
    rw [hg]
    split at h
    · rename_i hj
      right
      simp only [hj, Option.bind_none]
      exact ⟨by cases want <;> rfl, h⟩
    · rename_i d hj
      have hv := ht.vals d
      simp only [hj, Option.bind_some]
      have hget : ∀ x, a.tmps.getD d Go.undef = x → a.tmps[d]? = some x ∨ (a.tmps[d]? = none ∧ x = Go.undef) := by
        intro x hx
        rw [Array.getD_eq_getD_getElem?] at hx
        cases hd : a.tmps[d]? with
        | none => right; rw [hd] at hx; exact ⟨rfl, hx.symm⟩
        | some y => left; rw [hd] at hx; simp at hx; rw [hx]
      split at h
      · rename_i b hb
        rw [hb] at hv
        have e : a.tmps.getD d Go.undef = .bool b := by
          revert hv; generalize a.tmps.getD d Go.undef = z; intro hv; cases hv; rfl
        rcases hget _ e with h1 | ⟨_, h2⟩
        · rw [h1]
          by_cases hbw : b = want
          · left; subst hbw; exact ⟨by simp, h.1 rfl⟩
          · right
            have : b = !want := by cases b <;> cases want <;> simp_all
            exact ⟨by subst this; cases want <;> rfl, h.2 this⟩
        · cases h2
      · rename_i vs hb
        rw [hb] at hv
        have e : ∃ l, a.tmps.getD d Go.undef = .tuple l := by
          revert hv; generalize a.tmps.getD d Go.undef = z; intro hv; cases hv; exact ⟨_, rfl⟩
        obtain ⟨l, e⟩ := e
        right
        refine ⟨?_, h⟩
        rcases hget _ e with h1 | ⟨h1, _⟩
        · rw [h1]; cases want <;> rfl
        · rw [h1]; cases want <;> rfl
      · exact h.elim

theorem oper_next {F : Fence} {n : Nat} {P : Program} {o : Oper} {a : Act} {w : World} {next next' : Act → World → Prop} {Q : Exit → Act → World → Prop} (h : o.wpIn F n P a w next Q) (hn : ∀ a' w', next a' w' → next' a' w') :
    o.wpIn F n P a w next' Q := by
  refine ⟨h.1, ?_⟩
  have h2 := h.2
  unfold Oper.uponIn at h2 ⊢
  split at h2
  · exact hn _ _ h2
  · exact hn _ _ h2
  · exact hn _ _ h2
  · refine ⟨h2.1, h2.2.mono ?_⟩
    intro e w' he
    cases e with
    | returned v => exact hn _ _ he
    | panicked c => exact he
    | outgrown => exact he
  · exact ⟨h2.1, h2.2.mono fun v w' he => hn _ _ he⟩
  · refine ⟨h2.1, h2.2.mono ?_⟩
    intro e w' he
    cases e with
    | returned v => exact hn _ _ he
    | panicked c => exact he
    | outgrown => exact he
  · exact h2
  · exact h2.elim

theorem runOps_sound {P : Program} {G : Nat → AVal} {N : Nat} {r : Option Nat} {ops : Array Oper} {K : TS → Heap → Prop} {Q : Exit → Act → World → Prop} : ∀ (rest : List Oper) (i : Nat) (ts : TS) (m : Heap) (w : World) (a : Act),
    (∀ j, ops[i + j]? = rest[j]?) → runOps P G N ops rest ts m K → Sat m w → GOk G m w → TRel N m w ts a → (∀ a' w', KW N m w a.defers K a' w' → Q .normal a' w') →
    wpOpsIn (W r) 0 P ops Q (List.range' i rest.length) a w
  | [], i, ts, m, w, a, _, h, hs, hg, ht, hQ => by
    simp only [List.length_nil, List.range'_zero, wpOpsIn]
    exact hQ _ _ ⟨ts, m, h, hs, ht, Ext.refl _ _, rfl⟩
  | o :: rest, i, ts, m, w, a, hop, h, hs, hg, ht, hQ => by
    simp only [List.length_cons, List.range'_succ, wpOpsIn]
    have h0 := hop 0
    simp only [Nat.add_zero, List.getElem?_cons_zero] at h0
    have hop' : ∀ j, ops[(i + 1) + j]? = rest[j]? := by
      intro j
      have := hop (j + 1)
      simp only [List.getElem?_cons_succ] at this
      rw [← this]; congr 1; omega
    simp only [h0]
    obtain ⟨hd, h⟩ := h
    have hd' : ∀ k, o.dst = some k → k < N := by
      intro k hk; rw [hk] at hd; exact hd
    rcases wanted_of ht h with ⟨hw, hy⟩ | ⟨hw, hn⟩
    · simp only [hw, if_true]
      refine oper_next (oper_sound (r := r) (K := fun ts' m' => runOps P G N ops rest ts' m' K) hs hg ht hd' hy) ?_
      rintro a' w' ⟨ts', m', hk, hs', ht', he', hdef⟩
      refine runOps_sound rest (i + 1) ts' m' w' a' hop' hk hs' (hg.ext he') ht' ?_
      rintro a'' w'' ⟨ts'', m'', hk, hs'', ht'', he'', hdef'⟩
      exact hQ _ _ ⟨ts'', m'', hk, hs'', ht'', he'.trans he'', hdef'.trans hdef⟩
    · simp only [hw, Bool.false_eq_true, if_false]
      refine ⟨fun _ _ => trivial, ?_⟩
      refine runOps_sound rest (i + 1) (put ts o.dst (.tuple [])) m w (a.put o.dst Go.undef) hop' hn hs hg (ht.put hd' (.tuple [] #[] rfl (fun i hi => by simp at hi))) ?_
      rintro a'' w'' ⟨ts'', m'', hk, hs'', ht'', he'', hdef'⟩
      refine hQ _ _ ⟨ts'', m'', hk, hs'', ht'', he'', ?_⟩
      rw [hdef']; cases o.dst <;> rfl

theorem awp_region {P : Program} {G : Nat → AVal} {N : Nat} {r : Option Nat} {id : Nat} {ops : Array Oper} {Q : Exit → TS → Heap → Prop} {ts : TS} {m : Heap} (h : runOps P G N ops ops.toList ts m (Q .normal)) : AWP P G N r (.region id ops false) Q ts m := by
  intro B w a hB hs hg ht hd
  refine wpIn_region ?_
  have := runOps_sound (r := r) (Q := QL N B m w Q) ops.toList 0 ts m w a (fun j => by simp) h hs hg ht (fun a' w' ⟨ts', m', hk, hs', ht', he', hdef⟩ => ⟨ts', m', hk, hs', ht', he', by rw [hdef]; exact hd.ext he'⟩)
  rw [List.range_eq_range']
  simpa using this

/-! ### Code -/
def thenA (next : TS → Heap → Prop) (Q : Exit → TS → Heap → Prop) : Exit → TS → Heap → Prop
  | .normal, ts, m => next ts m
  | e, ts, m => Q e ts m
def blockA (id : Nat) (Q : Exit → TS → Heap → Prop) : Exit → TS → Heap → Prop
  | .exit id', ts, m => if id' = id then Q .normal ts m else Q (.exit id') ts m
  | e, ts, m => Q e ts m
def run (P : Program) (G : Nat → AVal) (N : Nat) (r : Option Nat) : Code → (Exit → TS → Heap → Prop) → TS → Heap → Prop
  | .skip, Q, ts, m => Q .normal ts m
  | .region id ops draw, Q, ts, m => if draw then AWP P G N r (.region id ops true) Q ts m else runOps P G N ops ops.toList ts m (Q .normal)
  | .seq a b, Q, ts, m => run P G N r a (thenA (fun ts' m' => run P G N r b Q ts' m') Q) ts m
  | .cond c a b, Q, ts, m => match ev G ts c with
    | .bool t => (t = true → run P G N r a Q ts m) ∧ (t = false → run P G N r b Q ts m)
    | _ => False
  | .block id c, Q, ts, m => run P G N r c (blockA id Q) ts m
  | .exit id, Q, ts, m => Q (.exit id) ts m
  | .goto l, Q, ts, m => Q (.goto l) ts m
  | .label _, Q, ts, m => Q .normal ts m
  | .ret, Q, ts, m => Q .ret ts m
  | .refuse _, _, _, _ => False
  | c, Q, ts, m => AWP P G N r c Q ts m

theorem run_sound {P : Program} {G : Nat → AVal} {N : Nat} {r : Option Nat} : ∀ (c : Code) (Q : Exit → TS → Heap → Prop) (ts : TS) (m : Heap), run P G N r c Q ts m → AWP P G N r c Q ts m
  | .skip, Q, ts, m, h => fun B w a hB hs hg ht hd => wpIn_skip ⟨ts, m, h, hs, ht, Ext.refl _ _, hd⟩
  | .region id ops draw, Q, ts, m, h => by
    cases draw with
    | true => exact h
    | false => exact awp_region h
  | .seq a b, Q, ts, m, h => fun B w ac hB hs hg ht hd => by
    have h1 := run_sound a _ ts m h B w ac hB hs hg ht hd
    refine wpIn_seq (wpIn_mono h1 ?_)
    intro e a' w' hq
    cases e with
    | normal =>
      obtain ⟨ts', m', hk, hs', ht', he', hd'⟩ := hq
      exact wpIn_mono (run_sound b Q ts' m' hk B w' a' (Nat.le_trans hB he'.size) hs' (hg.ext he') ht' hd') fun _ _ _ h => QL.trans he' h
    | _ => exact hq
  | .cond c x y, Q, ts, m, h => fun B w a hB hs hg ht hd => by
    simp only [run] at h
    have hv := ev_rel hg ht c
    split at h
    · rename_i t hc
      rw [hc] at hv
      have e : a.eval c = .bool t := by
        revert hv; generalize a.eval c = z; intro hv; cases hv; rfl
      cases t with
      | true => exact wpIn_cond e (run_sound x Q ts m (h.1 rfl) B w a hB hs hg ht hd)
      | false => exact wpIn_cond e (run_sound y Q ts m (h.2 rfl) B w a hB hs hg ht hd)
    · exact h.elim
  | .block id c, Q, ts, m, h => fun B w a hB hs hg ht hd => by
    refine wpIn_block (wpIn_mono (run_sound c _ ts m h B w a hB hs hg ht hd) ?_)
    rintro e a' w' ⟨ts', m', hk, hr⟩
    cases e with
    | exit id' =>
      simp only [blockA] at hk
      simp only [Exit.inBlock]
      split at hk
      · rename_i hi; rw [if_pos hi]; exact ⟨ts', m', hk, hr⟩
      · rename_i hi; rw [if_neg hi]; exact ⟨ts', m', hk, hr⟩
    | _ => exact ⟨ts', m', hk, hr⟩
  | .exit id, Q, ts, m, h => fun B w a hB hs hg ht hd => wpIn_exit ⟨ts, m, h, hs, ht, Ext.refl _ _, hd⟩
  | .goto l, Q, ts, m, h => fun B w a hB hs hg ht hd => wpIn_goto ⟨ts, m, h, hs, ht, Ext.refl _ _, hd⟩
  | .label l, Q, ts, m, h => fun B w a hB hs hg ht hd => wpIn_label ⟨ts, m, h, hs, ht, Ext.refl _ _, hd⟩
  | .ret, Q, ts, m, h => fun B w a hB hs hg ht hd => wpIn_ret ⟨ts, m, h, hs, ht, Ext.refl _ _, hd⟩
  | .refuse _, Q, ts, m, h => h.elim
  | .loop c, Q, ts, m, h => h
  | .rangeFunc f ps x y, Q, ts, m, h => h
  | .scope c, Q, ts, m, h => h

/-- A loop, by what holds at its head and a number that each round lowers. -/
theorem awp_loop {P : Program} {G : Nat → AVal} {N : Nat} {r : Option Nat} {c : Code} {Q : Exit → TS → Heap → Prop} {ts : TS} {m : Heap} (I : Nat → TS → Heap → Prop) (k0 : Nat) (h0 : I k0 ts m)
    (round : ∀ k ts m, I k ts m → run P G N r c (thenA (fun ts' m' => ∃ k', k' < k ∧ I k' ts' m') Q) ts m) : AWP P G N r (.loop c) Q ts m := by
  classical
  intro B w a hB hs hg ht hd
  let Inv : Nat → Act → World → Prop := fun k a' w' => ∃ ts' m', I k ts' m' ∧ Sat m' w' ∧ TRel N m' w' ts' a' ∧ Ext m w m' w' ∧ DefOK B m' w' a'.defers
  have main : ∀ k a' w', Inv k a' w' → (Code.loop c).wpIn (W r) 0 P (QL N B m w Q) a' w' := by
    intro k a0 w0 hi0
    let least : Act → World → Nat → Prop := fun a' w' j => Inv j a' w' ∧ ∀ i, Inv i a' w' → j ≤ i
    have hleast : ∀ a' w' j, Inv j a' w' → ∃ i, least a' w' i := by
      intro a' w' j
      induction j using Nat.strongRecOn with
      | _ j ih =>
        intro hj
        by_cases hm : ∃ i, i < j ∧ Inv i a' w'
        · obtain ⟨i, hi, hi'⟩ := hm; exact ih i hi hi'
        · exact ⟨j, hj, fun i hi => Nat.le_of_not_lt fun hlt => hm ⟨i, hlt, hi⟩⟩
    let μ : Act → World → Nat := fun a' w' => if h : ∃ i, least a' w' i then h.choose else 0
    refine wpIn_loop (fun a' w' => ∃ k, Inv k a' w') μ ⟨k, hi0⟩ ?_
    rintro a' w' ⟨k', hk'⟩
    have hex := hleast a' w' k' hk'
    have hμ : μ a' w' = hex.choose := by simp only [μ]; rw [dif_pos hex]
    obtain ⟨hl1, hl2⟩ := hex.choose_spec
    rw [← hμ] at hl1 hl2
    obtain ⟨ts', m', hi, hs', ht', he', hd'⟩ := hl1
    refine wpIn_mono (run_sound c _ ts' m' (round _ ts' m' hi) B w' a' (Nat.le_trans hB he'.size) hs' (hg.ext he') ht' hd') ?_
    rintro e a'' w'' ⟨ts'', m'', hk, hs'', ht'', he'', hd''⟩
    cases e with
    | normal =>
      obtain ⟨k'', hlt, hi''⟩ := hk
      have hinv : Inv k'' a'' w'' := ⟨ts'', m'', hi'', hs'', ht'', he'.trans he'', hd''⟩
      refine ⟨⟨k'', hinv⟩, ?_⟩
      have hex2 := hleast a'' w'' k'' hinv
      have hμ2 : μ a'' w'' = hex2.choose := by simp only [μ]; rw [dif_pos hex2]
      have := hex2.choose_spec.2 k'' hinv
      omega
    | _ => exact ⟨ts'', m'', hk, hs'', ht'', he'.trans he'', hd''⟩
  exact main k0 a w ⟨ts, m, h0, hs, ht, Ext.refl _ _, hd⟩

/-! ### A function -/
def resGo (P : Program) : List ResultVar → TS → Heap → (List AVal → Prop) → Prop
  | [], _, _, k => k []
  | .tmp t :: rest, ts, m, k => resGo P rest ts m fun l => k (ts t :: l)
  | .cell x t :: rest, ts, m, k => match ts x, tk P t with
    | .ptr b o, some (a, n) => match m b with
      | some (.cells cs _) => rok a n cs o ∧ resGo P rest ts m fun l => k (rcell a n cs o :: l)
      | _ => False
    | _, _ => False
def mkRes : List AVal → AVal
  | [v] => v
  | l => .tuple l
/-- What must hold where a function's body is left. -/
def bodyA (P : Program) (fn : Func) (K : AVal → Heap → Prop) : Exit → TS → Heap → Prop
  | .normal, ts, m | .ret, ts, m => resGo P fn.results.toList ts m fun l => K (mkRes l) m
  | _, _, _ => False

/-- A block that is no cells may be shut. -/
theorem shut_step {P : Program} {m : Heap} {w : World} (hs : Sat m w) {D : Nat} (hm : m D = none) (hD : w.heap[D]? = some (.deferred (some []))) :
    ∃ w', (Instr.takeDeferred D).run P w = .ok [] w' ∧ w'.heap.size = w.heap.size ∧ w'.os = w.os ∧ w'.tape = w.tape ∧ (w'.output = w.output ∧ w.drawn ≤ w'.drawn) ∧ (∀ b, b ≠ D → w'.heap[b]? = w.heap[b]?) ∧ w'.heap[D]? = some (.deferred none) := by
  have hlt : D < w.heap.size := (Array.getElem?_eq_some_iff.1 hD).1
  refine ⟨{ w with heap := w.heap.setIfInBounds D (.deferred none) }, ?_, by simp, rfl, rfl, ⟨rfl, Nat.le_refl _⟩, fun b hb => ?_, ?_⟩
  · simp [Instr.takeDeferred, getObj, setObj, Sem.run, hD]
  · simp only [Array.getElem?_setIfInBounds]; rw [if_neg (fun h => hb h.symm)]
  · simp [hlt]


theorem VRel.shut {m : Heap} {w w' : World} {D : Nat} {v : AVal} {x : Value} (h : VRel m w v x) (hD : ∀ i, w.cell? ⟨D, i, none⟩ = none) (hsz : w'.heap.size = w.heap.size) (hh : ∀ b, b ≠ D → w'.heap[b]? = w.heap[b]?) : VRel m w' v x := by
  have hc' : ∀ b i y, w.cell? ⟨b, i, none⟩ = some y → w'.cell? ⟨b, i, none⟩ = some y := by
    intro b i y hc
    have hb : b ≠ D := fun e => by rw [e, hD] at hc; cases hc
    rw [← hc]; exact cell_of_heap (a := ⟨b, i, none⟩) (hh b hb)
  induction h with
  | undef v => exact .undef v
  | bool b => exact .bool b
  | int k n => exact .int k n
  | str s => exact .str s
  | nilp => exact .nilp
  | ptr b o => exact .ptr b o
  | rptr cs o b off f hm hb hc _ ih => exact .rptr cs o b off f hm (by omega) (fun i hi => hc' _ _ _ (hc i hi)) ih
  | nils => exact .nils
  | slice b o len cap => exact .slice b o len cap
  | list0 sz a cap => exact .list0 sz a cap
  | list sz xs b off cap f hm hb hcap hsz' hc _ ih => exact .list sz xs b off cap f hm (by omega) hcap hsz' (fun i j hi hj => hc' _ _ _ (hc i j hi hj)) ih
  | nilmap => exact .nilmap
  | map b => exact .map b
  | func fn fs cs fs' cs' h1 h2 _ _ ih1 ih2 => exact .func fn fs cs fs' cs' h1 h2 ih1 ih2
  | nilf => exact .nilf
  | iface t v x _ ih => exact .iface t v x ih
  | nili => exact .nili
  | agg cs vs h _ ih => exact .agg cs vs h ih
  | tuple cs vs h _ ih => exact .tuple cs vs h ih

def resOf (tmps : Array Value) : ResultVar → Sem Value
  | .tmp t => pure (tmps.getD t Go.undef)
  | .cell a t => do loadVar t (← asAddr (tmps.getD a Go.undef))
theorem run_results {P : Program} {N : Nat} {m : Heap} {w : World} {ts : TS} {a : Act} (hs : Sat m w) (ht : TRel N m w ts a) : ∀ (rs : List ResultVar) (k : List AVal → Prop), resGo P rs ts m k →
    ∃ (l : List AVal) (vs : List Value), k l ∧ (rs.mapM (resOf a.tmps)).run P w = .ok vs w ∧ l.length = vs.length ∧ ∀ i, i < l.length → VRel m w (l.getD i .undef) (vs.getD i Go.undef)
  | [], k, h => ⟨[], [], h, rfl, rfl, fun i hi => by simp at hi⟩
  | .tmp t :: rest, k, h => by
    obtain ⟨l, vs, h1, h2, h3, h4⟩ := run_results hs ht rest _ h
    refine ⟨ts t :: l, a.tmps.getD t Go.undef :: vs, h1, ?_, by simp [h3], fun i hi => ?_⟩
    · simp only [List.mapM_cons, Sem.run_bind, Sem.run_pure, Result.andThen_ok, h2, resOf]
    · cases i with
      | zero => exact ht.vals t
      | succ i => simpa [List.getD_eq_getElem?_getD] using h4 i (by simpa using hi)
  | .cell x t :: rest, k, h => by
    simp only [resGo] at h
    have hx := ht.vals x
    split at h
    · rename_i b o a' n hb htk
      rw [hb] at hx
      have hev : a.tmps.getD x Go.undef = .pointer (some ⟨b, o, none⟩) := by
        revert hx; generalize a.tmps.getD x Go.undef = z; intro hx; cases hx; rfl
      split at h
      · rename_i cs N hm
        obtain ⟨hok, h⟩ := h
        obtain ⟨l, vs, h1, h2, h3, h4⟩ := run_results hs ht rest _ h
        obtain ⟨v, hv, hr⟩ := run_loadVar (P := P) htk b 0 o cs hok (cells_at (hs b _ hm))
        rw [Nat.zero_add] at hv
        refine ⟨rcell a' n cs o :: l, v :: vs, h1, ?_, by simp [h3], fun i hi => ?_⟩
        · simp only [List.mapM_cons, Sem.run_bind, Result.andThen_ok, resOf, hev, asAddr, Sem.run_pure, hv, h2]
        · cases i with
          | zero => exact hr
          | succ i => simpa [List.getD_eq_getElem?_getD] using h4 i (by simpa using hi)
      · exact h.elim
    · exact h.elim
theorem run_results' {P : Program} {N : Nat} {m : Heap} {w : World} {ts : TS} {a : Act} {fn : Func} (hs : Sat m w) (ht : TRel N m w ts a) (k : List AVal → Prop) (h : resGo P fn.results.toList ts m k) :
    ∃ (l : List AVal) (x : Value), k l ∧ (results fn a.tmps).run P w = .ok x w ∧ VRel m w (mkRes l) x := by
  obtain ⟨l, vs, h1, h2, h3, h4⟩ := run_results hs ht _ k h
  refine ⟨l, if h : vs.toArray.size = 1 then vs.toArray[0] else .tuple vs.toArray, h1, ?_, ?_⟩
  · have e : results fn a.tmps = (do
        let vs ← fn.results.mapM (resOf a.tmps)
        pure (if h : vs.size = 1 then vs[0] else .tuple vs)) := by
      unfold results
      congr 1
    rw [e, Array.mapM_eq_mapM_toList]
    simp only [Sem.run_bind, Sem.run_map, h2, Result.andThen_ok, Sem.run_pure]
  · match l, vs, h3, h4 with
    | [v], [x], _, h4 => simpa [mkRes] using h4 0 (by simp)
    | [], [], _, _ => exact .tuple [] #[] rfl (fun i hi => by simp at hi)
    | v :: u :: l, x :: y :: vs, h3, h4 =>
      have : ¬ ((x :: y :: vs).toArray.size = 1) := by simp
      rw [dif_neg this]
      refine .tuple _ _ (by simpa using h3) (fun i hi => ?_)
      have := h4 i hi
      simpa [Array.getD_eq_getD_getElem?, List.getD_eq_getElem?_getD] using this

theorem leaves {P : Program} {F : Fence} {n : Nat} {N : Nat} {m0 : Heap} {w0 : World} {fn : Func} {m : Heap} {ts : TS} {a : Act} {K : AVal → Heap → Prop} (h : resGo P fn.results.toList ts m fun l => K (mkRes l) m) :
    ∀ (ds : List Deferred) (w : World), Sat m w → TRel N m w ts a → Ext m0 w0 m w → DefOK w0.heap.size m w ds →
      LeavesInM F n P fn a.tmps (fun e w' => ∃ cv v m', e = .returned cv ∧ K v m' ∧ VRel m' w' v cv ∧ Sat m' w' ∧ Ext m0 w0 m' w') ds .returning w
  | [], w, hs, ht, he, _ => by
    obtain ⟨l, x, h1, h2, h3⟩ := run_results' hs ht _ h
    exact ⟨x, h2, x, mkRes l, m, rfl, h1, h3, hs, he⟩
  | d :: ds, w, hs, ht, he, hd => by
    obtain ⟨⟨D, rfl, hB, hm, hD, hne⟩, hds⟩ := hd
    obtain ⟨w', r1, r2, r3, r4, r5, r6, r7⟩ := shut_step (P := P) hs hm hD
    have hcell : ∀ i, w.cell? ⟨D, i, none⟩ = none := fun i => by simp [World.cell?, hD]
    refine ⟨by simp, .inl ⟨D, w', rfl, r1, ?_⟩⟩
    have hsat : Sat m w' := by
      intro b x hb
      have hbD : b ≠ D := fun e => by rw [e, hm] at hb; cases hb
      rw [r6 b hbD]
      have := hs b x hb
      cases x with
      | cells cs N => obtain ⟨arr, ty, h1, h2, h3, h4⟩ := this; exact ⟨arr, ty, h1, h2, h3, fun i hi => (h4 i hi).shut hcell r2 r6⟩
      | map es => obtain ⟨a, c, h1, h2, h3, h4, h5, k, h6⟩ := this; exact ⟨a, c, h1, h2, h3, h4, h5, k, fun i hi => ⟨(h6 i hi).1, (h6 i hi).2.shut hcell r2 r6⟩⟩
      | obj o' => exact this
      | loop N ts ps a b st pe => obtain ⟨fn, tmps, D, h1, h2, h3⟩ := this; exact ⟨fn, tmps, D, h1, h2, fun t => (h3 t).shut hcell r2 r6⟩
    refine leaves h ds w' hsat ⟨ht.size, fun t => (ht.vals t).shut hcell r2 r6⟩ ?_ ?_
    · refine ⟨by rw [r2]; exact he.size, r3.trans he.os, r4.trans he.tape, ⟨r5.1.trans he.output.1, Nat.le_trans he.output.2 r5.2⟩, fun b hb hb0 => ?_⟩
      obtain ⟨k1, k2⟩ := he.keep b hb hb0
      exact ⟨(r6 b (by omega)).trans k1, k2⟩
    · clear h
      induction ds with
      | nil => trivial
      | cons d' ds ih =>
        obtain ⟨⟨D', h1, h2, h3, h4, h5⟩, h6⟩ := hds
        have hDD : D' ≠ D := fun e => hne d' (by simp) (by rw [h1, e])
        exact ⟨⟨D', h1, h2, h3, (r6 D' hDD).trans h4, h5⟩, ih h6 (fun x hx => hne x (by simp [hx]))⟩

/-- A function's contract from its body. -/
theorem callWP_of {P : Program} {G : Nat → AVal} {f : FuncId} {fn : Func} {c : Code} {args : List AVal} {m : Heap} {K : AVal → Heap → Prop} (hf : P.funcs[f]? = some fn) (hb : fn.body = some c) (he : enters P f = true) (hn : args.length ≤ fn.ntmps)
    (h : run P G fn.ntmps none c (bodyA P fn K) (fun t => args.getD t (.tuple [])) m) : CallWP P G f args m K := by
  refine .inl ⟨he, fun w cargs hs hg hl hv => ?_⟩
  refine (callsIn_wide (n := 0)).1 ?_
  refine callsIn_of_wp_marks hf hb trivial ?_ rfl
  have ht : TRel fn.ntmps m w (fun t => args.getD t (.tuple [])) { tmps := cargs ++ Array.replicate (fn.ntmps - cargs.size) Go.undef, defers := [] } := by
    refine ⟨by simp; omega, fun t => ?_⟩
    by_cases h1 : t < args.length
    · have := hv t h1
      have e1 : args.getD t (.tuple []) = args.getD t .undef := by simp [List.getD_eq_getElem?_getD, h1]
      have e2 : (cargs ++ Array.replicate (fn.ntmps - cargs.size) Go.undef).getD t Go.undef = cargs.getD t Go.undef := by
        simp only [Array.getD_eq_getD_getElem?]; rw [Array.getElem?_append_left (by omega)]
      simp only [e1, e2]; exact this
    · have e1 : args.getD t (.tuple []) = .tuple [] := by simp [List.getD_eq_getElem?_getD, List.getElem?_eq_none (Nat.le_of_not_lt h1)]
      have e2 : (cargs ++ Array.replicate (fn.ntmps - cargs.size) Go.undef).getD t Go.undef = Go.undef := by
        simp only [Array.getD_eq_getD_getElem?]; rw [Array.getElem?_append_right (by omega)]
        simp only [Array.getElem?_replicate]; split <;> rfl
      simp only [e1, e2]
      exact .tuple [] #[] rfl (fun i hi => by simp at hi)
  have := run_sound c _ _ m h w.heap.size w _ (Nat.le_refl _) hs hg ht trivial
  refine wpIn_mono this ?_
  rintro e a' w' ⟨ts', m', hk, hs', ht', he', hd'⟩
  cases e with
  | normal => exact leaves hk _ _ hs' ht' he' hd'
  | ret => exact leaves hk _ _ hs' ht' he' hd'
  | _ => exact hk.elim

end Go.Proofs.Ytcdhihoghkkahaa.Ab
