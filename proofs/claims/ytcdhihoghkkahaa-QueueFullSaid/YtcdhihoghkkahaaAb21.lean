/- A loop whose round may forget what it made. -/
import Derived.Test.YtcdhihoghkkahaaAb20
set_option linter.all false
namespace Go.Proofs.Ytcdhihoghkkahaa.Ab
open Go

theorem TRel.sub {N : Nat} {m m1 : Heap} {w : World} {ts : TS} {a : Act} (h : TRel N m w ts a) (s : Sub m1 m) : TRel N m1 w ts a := ⟨h.size, fun t => (h.vals t).sub s⟩
theorem GOk.sub {G : Nat → AVal} {m m1 : Heap} {w : World} (h : GOk G m w) (s : Sub m1 m) : GOk G m1 w := fun g => (h g).sub s
theorem DefOK.sub {B : Nat} {m m1 : Heap} {w : World} (s : Sub m1 m) : ∀ {ds : List Deferred}, DefOK B m w ds → DefOK B m1 w ds
  | [], _ => trivial
  | d :: ds, h => by
    obtain ⟨⟨D, h1, h0, h2, h3, h5⟩, h4⟩ := h
    exact ⟨⟨D, h1, h0, s.gone h2, h3, h5⟩, h4.sub s⟩
theorem Ext.into {m m1 m' : Heap} {w w' : World} (s : Sub m1 m) (h : Ext m1 w m' w') : Ext m w m' w' :=
  ⟨h.size, h.os, h.tape, h.output, fun b hb hm => h.keep b hb (s.gone hm)⟩
/-- What was made may be forgotten ahead of any piece of code. -/
theorem AWP.drop {P : Program} {G : Nat → AVal} {N : Nat} {r : Option Nat} {c : Code} {Q : Exit → TS → Heap → Prop} {ts : TS} {m m1 : Heap} (s : Sub m1 m) (h : AWP P G N r c Q ts m1) : AWP P G N r c Q ts m := by
  intro B w a hB hs hg ht hd
  refine wpIn_mono (h B w a hB (hs.sub s) (hg.sub s) (ht.sub s) (hd.sub s)) ?_
  rintro e a' w' ⟨ts', m', h1, h2, h3, h4, h5⟩
  exact ⟨ts', m', h1, h2, h3, h4.into s, h5⟩
/-- Where a piece of code ends, what was made may be forgotten. -/
theorem AWP.forget {P : Program} {G : Nat → AVal} {N : Nat} {r : Option Nat} {c : Code} {Q : Exit → TS → Heap → Prop} {ts : TS} {m : Heap} (h : AWP P G N r c (fun e ts' m' => ∃ m1, Sub m1 m' ∧ Q e ts' m1) ts m) : AWP P G N r c Q ts m := by
  intro B w a hB hs hg ht hd
  refine wpIn_mono (h B w a hB hs hg ht hd) ?_
  rintro e a' w' ⟨ts', m', ⟨m1, s, h1⟩, h2, h3, h4, h5⟩
  exact ⟨ts', m1, h1, h2.sub s, h3.sub s, h4.sub s, h5.sub s⟩
/-- A loop (its round told in whatever way), by what holds at its head and a number that each round lowers. -/
theorem awp_loopA {P : Program} {G : Nat → AVal} {N : Nat} {r : Option Nat} {c : Code} {Q : Exit → TS → Heap → Prop} {ts : TS} {m : Heap} (I : Nat → TS → Heap → Prop) (k0 : Nat) (h0 : I k0 ts m)
    (round : ∀ k ts m, I k ts m → AWP P G N r c (thenA (fun ts' m' => ∃ k', k' < k ∧ I k' ts' m') Q) ts m) : AWP P G N r (.loop c) Q ts m := by
  classical
  intro B w a hB hs hg ht hd
  let Inv : Nat → Act → World → Prop := fun k a' w' => ∃ ts' m', I k ts' m' ∧ Sat m' w' ∧ TRel N m' w' ts' a' ∧ Ext m w m' w' ∧ DefOK B m' w' a'.defers
  have main : ∀ k a' w', Inv k a' w' → (Code.loop c).wpIn (W r) 0 P (QL N B m w Q) a' w' := by
    intro k a0 w0 hi0
    let least : Act → World → Nat → Prop := fun a' w' j => Inv j a' w' ∧ ∀ i, Inv i a' w' → j ≤ i
    have hleast : ∀ a' w' j, Inv j a' w' → ∃ i, least a' w' i := by
      intro a' w' j
      induction j using Nat.strongRecOn with
      | _ j ih =>
        intro hj
        by_cases hm : ∃ i, i < j ∧ Inv i a' w'
        · obtain ⟨i, hi, hi'⟩ := hm; exact ih i hi hi'
        · exact ⟨j, hj, fun i hi => Nat.le_of_not_lt fun hlt => hm ⟨i, hlt, hi⟩⟩
    let μ : Act → World → Nat := fun a' w' => if h : ∃ i, least a' w' i then h.choose else 0
    refine wpIn_loop (fun a' w' => ∃ k, Inv k a' w') μ ⟨k, hi0⟩ ?_
    rintro a' w' ⟨k', hk'⟩
    have hex := hleast a' w' k' hk'
    have hμ : μ a' w' = hex.choose := by simp only [μ]; rw [dif_pos hex]
    obtain ⟨hl1, hl2⟩ := hex.choose_spec
    rw [← hμ] at hl1 hl2
    obtain ⟨ts', m', hi, hs', ht', he', hd'⟩ := hl1
    refine wpIn_mono ((round _ ts' m' hi) B w' a' (Nat.le_trans hB he'.size) hs' (hg.ext he') ht' hd') ?_
    rintro e a'' w'' ⟨ts'', m'', hk, hs'', ht'', he'', hd''⟩
    cases e with
    | normal =>
      obtain ⟨k'', hlt, hi''⟩ := hk
      have hinv : Inv k'' a'' w'' := ⟨ts'', m'', hi'', hs'', ht'', he'.trans he'', hd''⟩
      refine ⟨⟨k'', hinv⟩, ?_⟩
      have hex2 := hleast a'' w'' k'' hinv
      have hμ2 : μ a'' w'' = hex2.choose := by simp only [μ]; rw [dif_pos hex2]
      have := hex2.choose_spec.2 k'' hinv
      omega
    | _ => exact ⟨ts'', m'', hk, hs'', ht'', he'.trans he'', hd''⟩
  exact main k0 a w ⟨ts, m, h0, hs, ht, Ext.refl _ _, hd⟩

/-- A loop whose round may forget what it made. -/
theorem awp_loopF {P : Program} {G : Nat → AVal} {N : Nat} {r : Option Nat} {c : Code} {Q : Exit → TS → Heap → Prop} {ts : TS} {m : Heap} (I : Nat → TS → Heap → Prop) (k0 : Nat) (h0 : I k0 ts m)
    (round : ∀ k ts m, I k ts m → run P G N r c (thenA (fun ts' m' => ∃ k', k' < k ∧ ∃ m1, Sub m1 m' ∧ I k' ts' m1) Q) ts m) (hQ : ∀ e ts m m1, Sub m1 m → Q e ts m1 → Q e ts m) : AWP P G N r (.loop c) Q ts m := by
  refine awp_loopA (fun k ts m => ∃ m1, Sub m1 m ∧ I k ts m1) k0 ⟨m, Sub.refl m, h0⟩ ?_
  rintro k ts m ⟨m1, s, h⟩
  exact (run_sound c _ ts m1 (round k ts m1 h)).drop s
end Go.Proofs.Ytcdhihoghkkahaa.Ab
