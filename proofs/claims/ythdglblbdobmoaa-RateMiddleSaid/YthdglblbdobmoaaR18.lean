/- Both estimators side by side. -/
import Derived.Test.YthdglblbdobmoaaR17
set_option linter.all false
namespace Go.Proofs.Ythdglblbdobmoaa
open Go Go.Proofs.Ythdglblbdobmoaa.Ab
open Go.Proofs (Try.prog)
set_option maxRecDepth 100000
structure Both (m : Heap) (p1 p2 : Nat) (av lv : AVal) (k : Int) (n : Nat) (la : Option S2) (La : List Int) (lb : Option S2) (Lb : List Int) : Prop where
  pe : PE m p1 av k n la La
  re : RE m p2 lv k n lb Lb
  ne : p1 ≠ p2
  n1 : blkOf av ≠ some p2
  n2 : blkOf lv ≠ some p1
  n3 : ∀ b, blkOf av = some b → blkOf lv ≠ some b
theorem RE.some_at {m : Heap} {p : Nat} {lv : AVal} {k : Int} {n : Nat} {last : Option S2} {L : List Int} (h : RE m p lv k n last L) : m p ≠ none := by
  obtain ⟨b, l, h1, h2⟩ := h.at_; rw [h1]; simp
theorem RE.some_row {m : Heap} {p : Nat} {lv : AVal} {k : Int} {n : Nat} {last : Option S2} {L : List Int} (h : RE m p lv k n last L) {q : Nat} (hq : blkOf lv = some q) : m q ≠ none := by
  rcases h.row with ⟨rfl, _⟩ | ⟨b, blk, hb, pre, post, N, cap, rfl, _⟩
  · cases hq
  · simp only [blkOf, Option.some.injEq] at hq; subst hq; rw [hb]; simp
theorem PE.some_at {m : Heap} {p : Nat} {av : AVal} {k : Int} {n : Nat} {last : Option S2} {L : List Int} (h : PE m p av k n last L) : m p ≠ none := by
  obtain ⟨W, next, has, h1, h2⟩ := h.at_; rw [h1]; simp
theorem PE.some_last {m : Heap} {p : Nat} {av : AVal} {k : Int} {n : Nat} {last : Option S2} {L : List Int} (h : PE m p av k n last L) {q : Nat} (hq : blkOf av = some q) : m q ≠ none ∧ q ≠ p := by
  have := h.last_
  cases last with
  | none => cases this; cases hq
  | some a => obtain ⟨q', rfl, h1, h2, _⟩ := this; simp only [blkOf, Option.some.injEq] at hq; subst hq; rw [h2]; exact ⟨by simp, h1⟩
section
variable {m : Heap} {p1 p2 : Nat} {av lv : AVal} {k : Int} {n : Nat} {la : Option S2} {La : List Int} {lb : Option S2} {Lb : List Int} (G : Nat → AVal)
theorem Both.preset (h : Both m p1 p2 av lv k n la La lb Lb) (K : AVal → Heap → Prop) (hK : ∀ m', Both m' p1 p2 .nilp lv k n none [] lb Lb → K (.tuple []) m') : CallWP Try.prog G 14 [.ptr p1 0] m K := by
  obtain ⟨pe, re, ne, n1, n2, n3⟩ := h
  refine PE.reset G pe K (fun m' hf hp => hK m' ⟨hp, re.keep (hf _ (Ne.symm ne) re.some_at) (fun q hq => hf q (fun e => n2 (by rw [hq, e])) (re.some_row hq)), ne, by simp [blkOf], n2, fun b hb => by cases hb⟩)
theorem Both.rreset (h : Both m p1 p2 av lv k n la La lb Lb) (K : AVal → Heap → Prop) (hK : ∀ m', Both m' p1 p2 av .nils k n la La none [] → K (.tuple []) m') : CallWP Try.prog G 15 [.ptr p2 0] m K := by
  obtain ⟨pe, re, ne, n1, n2, n3⟩ := h
  refine RE.reset G re K (fun m' hf hr => hK m' ⟨pe.keep (hf _ ne pe.some_at) (fun q hq => hf q (fun e => n1 (by rw [hq, e])) (pe.some_last hq).1), hr, ne, n1, by simp [blkOf], fun b hb => by simp [blkOf]⟩)
theorem Both.padd (h : Both m p1 p2 av lv k n la La lb Lb) (s : S2) (hs : I64 s.1 ∧ I64 s.2) (K : AVal → Heap → Prop) (hK : ∀ q m', Both m' p1 p2 (.ptr q 0) lv k n (some s) (addL la La k n s).2 lb Lb → K (.bool (addL la La k n s).1) m') : CallWP Try.prog G 16 [.ptr p1 0, encS s] m K := by
  obtain ⟨pe, re, ne, n1, n2, n3⟩ := h
  refine PE.add G pe s hs K (fun q m' hq hf hp => hK q m' ⟨hp, re.keep (hf _ (Ne.symm ne) re.some_at) (fun q hq => hf q (fun e => n2 (by rw [hq, e])) (re.some_row hq)), ne, ?_, n2, fun b hb => ?_⟩)
  · simp only [blkOf, ne_eq, Option.some.injEq]; intro e; subst e; exact re.some_at hq
  · simp only [blkOf, Option.some.injEq] at hb; subst hb; intro e; exact re.some_row e hq
theorem Both.radd (h : Both m p1 p2 av lv k n la La lb Lb) (s : S2) (hs : I64 s.1 ∧ I64 s.2) (K : AVal → Heap → Prop) (hK : ∀ lv' m', Both m' p1 p2 av lv' k n la La (some s) (addL lb Lb k n s).2 → K (.bool (addL lb Lb k n s).1) m') : CallWP Try.prog G 17 [.ptr p2 0, encS s] m K := by
  obtain ⟨pe, re, ne, n1, n2, n3⟩ := h
  refine RE.add G re s hs K (fun lv' m' hl hf hr => hK lv' m' ⟨pe.keep (hf _ ne n2 pe.some_at) (fun q hq => hf q (fun e => n1 (by rw [hq, e])) (n3 q hq) (pe.some_last hq).1), hr, ne, n1, fun e => ?_, fun b hb e => ?_⟩)
  · rcases hl _ e with h | h
    · exact pe.some_at h
    · exact n2 h
  · rcases hl _ e with h | h
    · exact (pe.some_last hb).1 h
    · exact n3 _ hb h
theorem Both.len (h : Both m p1 p2 av lv k n la La lb Lb) : ∃ b l, m p2 = some (refB k n b l lv) ∧ ((lv = .nils ∧ Lb = []) ∨ ∃ c o cap, lv = .slice c o Lb.length cap) := by
  obtain ⟨b, l, h1, _⟩ := h.re.at_
  refine ⟨b, l, h1, ?_⟩
  rcases h.re.row with h | ⟨c, blk, hb, pre, post, N, cap, rfl, _⟩
  · exact .inl h
  · exact .inr ⟨_, _, _, rfl⟩
end
end Go.Proofs.Ythdglblbdobmoaa
