/- A scope with one label; functions without a body. -/
import Derived.Test.YtcdhihoghkkahaaAb23
import Derived.ScopeJumps
import Derived.Laws.Externs
set_option linter.all false
namespace Go.Proofs.Ytcdhihoghkkahaa.Ab
open Go

def jumpA (l : Nat) (J : TS → Heap → Prop) (Q : Exit → TS → Heap → Prop) : Exit → TS → Heap → Prop
  | .goto l', ts, m => l' = l ∧ J ts m
  | e, ts, m => Q e ts m
theorem jumpA_normal (l : Nat) (J : TS → Heap → Prop) (Q : Exit → TS → Heap → Prop) (ts : TS) (m : Heap) : jumpA l J Q .normal ts m = Q .normal ts m := rfl
theorem jumpA_ret (l : Nat) (J : TS → Heap → Prop) (Q : Exit → TS → Heap → Prop) (ts : TS) (m : Heap) : jumpA l J Q .ret ts m = Q .ret ts m := rfl
theorem jumpA_exit (l id : Nat) (J : TS → Heap → Prop) (Q : Exit → TS → Heap → Prop) (ts : TS) (m : Heap) : jumpA l J Q (.exit id) ts m = Q (.exit id) ts m := rfl
theorem jumpA_goto (l : Nat) (J : TS → Heap → Prop) (Q : Exit → TS → Heap → Prop) (ts : TS) (m : Heap) : jumpA l J Q (.goto l) ts m = J ts m := by simp [jumpA]
theorem thenA_goto (l : Nat) (next : TS → Heap → Prop) (Q : Exit → TS → Heap → Prop) (ts : TS) (m : Heap) : thenA next Q (.goto l) ts m = Q (.goto l) ts m := rfl
theorem blockA_goto (id l : Nat) (Q : Exit → TS → Heap → Prop) (ts : TS) (m : Heap) : blockA id Q (.goto l) ts m = Q (.goto l) ts m := rfl
theorem run_goto {P : Program} {G : Nat → AVal} {N : Nat} {r : Option Nat} (l : Nat) (Q : Exit → TS → Heap → Prop) (ts : TS) (m : Heap) : run P G N r (.goto l) Q ts m = Q (.goto l) ts m := rfl
theorem run_label {P : Program} {G : Nat → AVal} {N : Nat} {r : Option Nat} (l : Nat) (Q : Exit → TS → Heap → Prop) (ts : TS) (m : Heap) : run P G N r (.label l) Q ts m = Q .normal ts m := rfl
theorem run_scope {P : Program} {G : Nat → AVal} {N : Nat} {r : Option Nat} (c : Code) (Q : Exit → TS → Heap → Prop) (ts : TS) (m : Heap) : run P G N r (.scope c) Q ts m = AWP P G N r (.scope c) Q ts m := rfl

/-- What must hold where a loop is left by one exit; by others: as Q. -/
def exitA (id : Nat) (Post : TS → Heap → Prop) (Q : Exit → TS → Heap → Prop) : Exit → TS → Heap → Prop
  | .exit id', ts, m => if id' = id then Again 1 (Post ts m) else Q (.exit id') ts m
  | e, ts, m => Q e ts m
theorem exitA_ret (id : Nat) (Post : TS → Heap → Prop) (Q : Exit → TS → Heap → Prop) (ts : TS) (m : Heap) : exitA id Post Q .ret ts m = Q .ret ts m := rfl
theorem exitA_normal (id : Nat) (Post : TS → Heap → Prop) (Q : Exit → TS → Heap → Prop) (ts : TS) (m : Heap) : exitA id Post Q .normal ts m = Q .normal ts m := rfl
theorem exitA_goto (id l : Nat) (Post : TS → Heap → Prop) (Q : Exit → TS → Heap → Prop) (ts : TS) (m : Heap) : exitA id Post Q (.goto l) ts m = Q (.goto l) ts m := rfl
theorem exitA_exit (id id' : Nat) (Post : TS → Heap → Prop) (Q : Exit → TS → Heap → Prop) (ts : TS) (m : Heap) : exitA id Post Q (.exit id') ts m = if id' = id then Again 1 (Post ts m) else Q (.exit id') ts m := rfl
/-- A loop that is left by one exit in what Post says. -/
theorem awp_loopP {P : Program} {G : Nat → AVal} {N : Nat} {r : Option Nat} {c : Code} {Q : Exit → TS → Heap → Prop} {ts : TS} {m : Heap} (id : Nat) (Post : TS → Heap → Prop) (I : Nat → TS → Heap → Prop) (k0 : Nat) (h0 : I k0 ts m)
    (round : ∀ k ts m, I k ts m → run P G N r c (thenA (fun ts' m' => Again 0 (∃ k', k' < k ∧ ∃ m1, Sub m1 m' ∧ I k' ts' m1)) (exitA id Post Q)) ts m)
    (rest : ∀ ts m, Post ts m → Q (.exit id) ts m) : AWP P G N r (.loop c) Q ts m := by
  refine (awp_loopG I k0 h0 round).mono ?_
  intro e ts m h
  cases e with
  | exit id' =>
    simp only [exitA] at h
    split at h
    · rename_i he; subst he; exact rest ts m h
    · exact h
  | _ => exact h
theorem W_wide : W none = Fence.wide := rfl
/-- A scope in which the run jumps back to one label. -/
theorem awp_scope {P : Program} {G : Nat → AVal} {N : Nat} {c rest : Code} {Q : Exit → TS → Heap → Prop} {ts : TS} {m : Heap} (l : Nat) (hf : findLabel c l = some rest) (I : Nat → TS → Heap → Prop)
    (first : run P G N none c (jumpA l (fun ts' m' => Again 0 (∃ k m1, Sub m1 m' ∧ I k ts' m1)) Q) ts m)
    (pass : ∀ k ts m, I k ts m → run P G N none rest (jumpA l (fun ts' m' => Again 0 (∃ k', k' < k ∧ ∃ m1, Sub m1 m' ∧ I k' ts' m1)) Q) ts m) : AWP P G N none (.scope c) Q ts m := by
  classical
  intro B w a hB hs hg ht hd
  let Inv : Nat → Act → World → Prop := fun k a' w' => ∃ ts' m', (∃ m1, Sub m1 m' ∧ I k ts' m1) ∧ Sat m' w' ∧ TRel N m' w' ts' a' ∧ Ext m w m' w' ∧ DefOK B m' w' a'.defers
  let least : Act → World → Nat → Prop := fun a' w' j => Inv j a' w' ∧ ∀ i, Inv i a' w' → j ≤ i
  have hleast : ∀ a' w' j, Inv j a' w' → ∃ i, least a' w' i := by
    intro a' w' j
    induction j using Nat.strongRecOn with
    | _ j ih =>
      intro hj
      by_cases hm : ∃ i, i < j ∧ Inv i a' w'
      · obtain ⟨i, hi, hi'⟩ := hm; exact ih i hi hi'
      · exact ⟨j, hj, fun i hi => Nat.le_of_not_lt fun hlt => hm ⟨i, hlt, hi⟩⟩
  let μ : Act → World → Nat := fun a' w' => if h : ∃ i, least a' w' i then h.choose else 0
  have conv : ∀ (c : Code) (Q' : Exit → Act → World → Prop) (a : Act) (w : World), c.wpIn (W none) 0 P Q' a w ↔ c.wp P Q' a w := fun c Q' a w => by rw [W_wide]; exact wpIn_wide
  rw [conv]
  refine wp_scope_jumps l (fun a' w' => ∃ k, Inv k a' w') μ hf ?_ ?_
  · rw [← conv]
    refine wpIn_mono (run_sound c _ ts m first B w a hB hs hg ht hd) ?_
    rintro e a' w' ⟨ts', m', hk, hs', ht', he', hd'⟩
    cases e with
    | goto l' =>
      obtain ⟨rfl, k, m1, s, hi⟩ := hk
      exact ⟨rfl, k, ts', m', ⟨m1, s, hi⟩, hs', ht', he', hd'⟩
    | _ => exact ⟨ts', m', hk, hs', ht', he', hd'⟩
  · rintro a' w' ⟨k', hk'⟩
    have hex := hleast a' w' k' hk'
    have hμ : μ a' w' = hex.choose := by simp only [μ]; rw [dif_pos hex]
    obtain ⟨hl1, hl2⟩ := hex.choose_spec
    rw [← hμ] at hl1 hl2
    obtain ⟨ts', m', ⟨m1, s, hi⟩, hs', ht', he', hd'⟩ := hl1
    rw [← conv]
    have hrun := (run_sound rest _ ts' m1 (pass _ ts' m1 hi)).drop s
    refine wpIn_mono (hrun B w' a' (Nat.le_trans hB he'.size) hs' (hg.ext he') ht' hd') ?_
    rintro e a'' w'' ⟨ts'', m'', hk, hs'', ht'', he'', hd''⟩
    cases e with
    | goto l' =>
      obtain ⟨rfl, k'', hlt, hi''⟩ := hk
      have hinv : Inv k'' a'' w'' := ⟨ts'', m'', hi'', hs'', ht'', he'.trans he'', hd''⟩
      refine ⟨rfl, ⟨k'', hinv⟩, ?_⟩
      have hex2 := hleast a'' w'' k'' hinv
      have hμ2 : μ a'' w'' = hex2.choose := by simp only [μ]; rw [dif_pos hex2]
      have := hex2.choose_spec.2 k'' hinv
      omega
    | _ => exact ⟨ts'', m'', hk, hs'', ht'', he'.trans he'', hd''⟩

/-- math/bits.Add64. -/
theorem add64_wp {P : Program} {G : Nat → AVal} {f : FuncId} {fn : Func} (hf : P.funcs[f]? = some fn) (hname : (fn.name == "runtime.NumGoroutine") = false) (hb : fn.body.isNone = true) (hn : Extern.findNext fn = none) (he : Extern.find fn = some add64Entry)
    (x y c : Int) (hx : 0 ≤ x) (hy : 0 ≤ y) (hc0 : 0 ≤ c) (hc : c ≤ 1) (m : Heap) :
    CallWP P G f [.int .u64 x, .int .u64 y, .int .u64 c] m fun v m' => v = .tuple [.int .u64 ((x + y + c) % 18446744073709551616), .int .u64 ((x + y + c) / 18446744073709551616)] ∧ m' = m := by
  refine .inr fun w cargs hs hg hl hv => ?_
  have hargs : cargs = #[.int .u64 x, .int .u64 y, .int .u64 c] := by
    obtain ⟨l⟩ := cargs
    match l, hl, hv with
    | [p, q, r], _, hv =>
      have h0 := hv 0 (by simp); have h1 := hv 1 (by simp); have h2 := hv 2 (by simp)
      simp at h0 h1 h2
      cases h0; cases h1; cases h2; rfl
  subst hargs
  refine ⟨.tuple #[.int .u64 ((x + y + c) % 18446744073709551616), .int .u64 ((x + y + c) / 18446744073709551616)], _, m, ?_, ⟨rfl, rfl⟩, ?_, hs, Ext.refl _ _⟩
  · rw [run_callFunc_extern hf hname hb hn he, run_add64 x y c hx hy hc0 hc]; rfl
  · refine .tuple _ _ rfl (fun i hi => ?_)
    match i with
    | 0 => exact .int _ _
    | 1 => exact .int _ _
end Go.Proofs.Ytcdhihoghkkahaa.Ab
