/- Both estimators, by what they hold. -/
import Derived.Test.YthdglblbdobmoaaR15
set_option linter.all false
namespace Go.Proofs.Ythdglblbdobmoaa
open Go Go.Proofs.Ythdglblbdobmoaa.Ab
open Go.Proofs (Try.prog)
set_option maxRecDepth 100000
/-- Which block a value points to. -/
def blkOf : AVal → Option Nat
  | .ptr b _ => some b
  | .slice b _ _ _ => some b
  | _ => none
def LastP (last : Option S2) (av : AVal) (p : Nat) (m : Heap) : Prop := match last with
  | none => av = .nilp
  | some a => ∃ q, av = .ptr q 0 ∧ q ≠ p ∧ m q = some (sampB a) ∧ I64 a.1 ∧ I64 a.2
/-- The program's estimator. -/
structure PE (m : Heap) (p : Nat) (av : AVal) (k : Int) (n : Nat) (last : Option S2) (L : List Int) : Prop where
  at_ : ∃ W next has, m p = some (estB k n av W next has) ∧ Ring W next has n L
  last_ : LastP last av p m
  kk : 0 ≤ k ∧ k ≤ 4096
def addL (last : Option S2) (L : List Int) (k : Int) (n : Nat) (s : S2) : Bool × List Int := match last with
  | none => (false, L)
  | some a => if (rateF a s k).2 = true then (true, keepL L n (rateF a s k).1) else (false, L)
/-- What other blocks hold stays. -/
def Fr1 (p : Nat) (m m' : Heap) : Prop := ∀ x, x ≠ p → m x ≠ none → m' x = m x
theorem fr_2 {m : Heap} {p q : Nat} {x y : ABlk} (hq : m q = none) : Fr1 p m (hupd (hupd m q x) p y) := by
  intro z hz hm
  rw [hupd_ne hz, hupd_ne (fun e => hm (by rw [e, hq]))]
theorem PE.keep {m m' : Heap} {p : Nat} {av : AVal} {k : Int} {n : Nat} {last : Option S2} {L : List Int} (h : PE m p av k n last L) (hp : m' p = m p) (hq : ∀ q, blkOf av = some q → m' q = m q) : PE m' p av k n last L := by
  obtain ⟨⟨W, next, has, h1, h2⟩, h3, h4⟩ := h
  refine ⟨⟨W, next, has, hp.trans h1, h2⟩, ?_, h4⟩
  cases last with
  | none => exact h3
  | some a => obtain ⟨q, e, h5, h6, h7⟩ := h3; exact ⟨q, e, h5, (hq q (by rw [e]; rfl)).trans h6, h7⟩
theorem PE.new (G : Nat → AVal) (k many : Int) (m : Heap) (K : AVal → Heap → Prop)
    (h0 : ¬ ((0 ≤ k ∧ k ≤ 4096) ∧ 1 ≤ many ∧ many ≤ 9) → K (.tuple [.nilp, .int .i64 1]) m)
    (h1 : ∀ (p n : Nat) (m' : Heap), many = n → 0 < n → n ≤ 9 → m p = none → Fr1 p m m' → PE m' p .nilp k n none [] → K (.tuple [.ptr p 0, .int .i64 0]) m') : CallWP Try.prog G 12 [.int .i64 k, .int .i64 many] m K := by
  refine new_spec G k many m K h0 (fun p n hk hn h0 h9 hp => h1 p n _ hn h0 h9 hp ?_ ⟨⟨zeros9, 0, 0, by simp only [hupd_at, if_true], Ring.init n h0 h9⟩, rfl, hk⟩)
  intro z hz hm
  rw [hupd_ne hz]
theorem PE.reset (G : Nat → AVal) {m : Heap} {p : Nat} {av : AVal} {k : Int} {n : Nat} {last : Option S2} {L : List Int} (h : PE m p av k n last L) (K : AVal → Heap → Prop)
    (hK : ∀ m', Fr1 p m m' → PE m' p .nilp k n none [] → K (.tuple []) m') : CallWP Try.prog G 14 [.ptr p 0] m K := by
  obtain ⟨⟨W, next, has, h1, h2⟩, h3, h4⟩ := h
  refine reset_spec G k n av W next has p m K h1 h2.len (hK _ (fun z hz _ => hupd_ne hz) ⟨⟨zeros9, 0, 0, by simp only [hupd_at, if_true], Ring.init n h2.n0 h2.n9⟩, rfl, h4⟩)
theorem PE.rate (G : Nat → AVal) {m : Heap} {p : Nat} {av : AVal} {k : Int} {n : Nat} {last : Option S2} {L : List Int} (h : PE m p av k n last L) :
    CallWP Try.prog G 18 [.ptr p 0] m fun v m' => v = .int .i64 (med L) ∧ m' = m := by
  obtain ⟨⟨W, next, has, h1, h2⟩, h3, h4⟩ := h
  have := rate_spec G k n av W next has p m h1 h2.len (Nat.le_trans h2.hn h2.n9)
  rw [← med_perm h2.perm] at this
  exact this
theorem PE.many (G : Nat → AVal) {m : Heap} {p : Nat} {av : AVal} {k : Int} {n : Nat} {last : Option S2} {L : List Int} (h : PE m p av k n last L) :
    CallWP Try.prog G 20 [.ptr p 0] m fun v m' => v = .int .i64 (L.length : Nat) ∧ m' = m := by
  obtain ⟨⟨W, next, has, h1, h2⟩, h3, h4⟩ := h
  have := many_spec G k n av W next has p m h1 h2.len
  rw [h2.has_eq]
  exact this
theorem PE.add (G : Nat → AVal) {m : Heap} {p : Nat} {av : AVal} {k : Int} {n : Nat} {last : Option S2} {L : List Int} (h : PE m p av k n last L) (s : S2) (hs : I64 s.1 ∧ I64 s.2) (K : AVal → Heap → Prop)
    (hK : ∀ (q : Nat) (m' : Heap), m q = none → Fr1 p m m' → PE m' p (.ptr q 0) k n (some s) (addL last L k n s).2 → K (.bool (addL last L k n s).1) m') : CallWP Try.prog G 16 [.ptr p 0, encS s] m K := by
  obtain ⟨⟨W, next, has, h1, h2⟩, h3, h4⟩ := h
  have hsamp : ∀ (q : Nat) (y : ABlk), m q = none → LastP (some s) (.ptr q 0) p (hupd (hupd m q (sampB s)) p y) := fun q y hq => ⟨q, rfl, (ne_of h1 hq).2, by rw [hupd_ne (ne_of h1 hq).2, hupd_at, if_pos rfl], hs⟩
  cases last with
  | none =>
    cases h3
    refine add_first G k n W next has s p m K h1 h2.len (fun q hq => ?_)
    exact hK q _ hq (fr_2 hq) ⟨⟨W, next, has, by simp only [hupd_at, if_true], h2⟩, hsamp q _ hq, h4⟩
  | some a =>
    obtain ⟨q0, rfl, h5, h6, h7⟩ := h3
    refine add_next G k n W next has a s p q0 m K h1 h6 ⟨Ne.symm h5, h5⟩ h2.len h2.n9 h2.nx h2.hn h7 hs ⟨by omega, by omega⟩ (fun hr q hq => ?_) (fun hr q hq => ?_)
    · have e : addL (some a) L k n s = (false, L) := by simp only [addL]; rw [if_neg (by rw [hr]; simp)]
      rw [e] at hK
      exact hK q _ hq (fr_2 hq) ⟨⟨W, next, has, by simp only [hupd_at, if_true], h2⟩, hsamp q _ hq, h4⟩
    · have e : addL (some a) L k n s = (true, keepL L n (rateF a s k).1) := by simp only [addL]; rw [if_pos hr]
      rw [e] at hK
      exact hK q _ hq (fr_2 hq) ⟨⟨_, _, _, by simp only [hupd_at, if_true], h2.step _⟩, hsamp q _ hq, h4⟩
/-- The document's estimator. -/
structure RE (m : Heap) (p : Nat) (lv : AVal) (k : Int) (n : Nat) (last : Option S2) (L : List Int) : Prop where
  at_ : ∃ h l, m p = some (refB k n h l lv) ∧ (match last with | none => h = false | some a => h = true ∧ l = a ∧ I64 a.1 ∧ I64 a.2)
  row : SlM encI 1 L lv m
  ne : blkOf lv ≠ some p
  len : L.length ≤ n
  n9 : n ≤ 9
  kk : 0 ≤ k ∧ k ≤ 4096
theorem RE.keep {m m' : Heap} {p : Nat} {lv : AVal} {k : Int} {n : Nat} {last : Option S2} {L : List Int} (h : RE m p lv k n last L) (hp : m' p = m p) (hq : ∀ q, blkOf lv = some q → m' q = m q) : RE m' p lv k n last L := by
  obtain ⟨⟨b, l, h1, h2⟩, h3, h4, h5, h6, h7⟩ := h
  refine ⟨⟨b, l, hp.trans h1, h2⟩, ?_, h4, h5, h6, h7⟩
  rcases h3 with h | ⟨c, blk, hb, hv⟩
  · exact .inl h
  · refine .inr ⟨c, blk, (hq c ?_).trans hb, hv⟩
    obtain ⟨pre, post, N, cap, rfl, _⟩ := hv; rfl
theorem RE.new (G : Nat → AVal) (k many : Int) (m : Heap) (K : AVal → Heap → Prop)
    (h0 : ¬ ((0 ≤ k ∧ k ≤ 4096) ∧ 1 ≤ many ∧ many ≤ 9) → K (.tuple [.nilp, .int .i64 1]) m)
    (h1 : ∀ (p n : Nat) (m' : Heap), many = n → 0 < n → n ≤ 9 → m p = none → Fr1 p m m' → RE m' p .nils k n none [] → K (.tuple [.ptr p 0, .int .i64 0]) m') : CallWP Try.prog G 13 [.int .i64 k, .int .i64 many] m K := by
  refine rnew_spec G k many m K h0 (fun p n hk hn h0 h9 hp => h1 p n _ hn h0 h9 hp ?_ ⟨⟨false, (0, 0), by simp only [hupd_at, if_true], rfl⟩, .inl ⟨rfl, rfl⟩, (by simp [blkOf]), Nat.zero_le _, h9, hk⟩)
  intro z hz hm
  rw [hupd_ne hz]
theorem RE.reset (G : Nat → AVal) {m : Heap} {p : Nat} {lv : AVal} {k : Int} {n : Nat} {last : Option S2} {L : List Int} (h : RE m p lv k n last L) (K : AVal → Heap → Prop)
    (hK : ∀ m', Fr1 p m m' → RE m' p .nils k n none [] → K (.tuple []) m') : CallWP Try.prog G 15 [.ptr p 0] m K := by
  obtain ⟨⟨b, l, h1, h2⟩, h3, h4, h5, h6, h7⟩ := h
  refine rreset_spec G k n b l lv p m K h1 (hK _ (fun z hz _ => hupd_ne hz) ⟨⟨false, l, by simp only [hupd_at, if_true], rfl⟩, .inl ⟨rfl, rfl⟩, (by simp [blkOf]), Nat.zero_le _, h6, h7⟩)
theorem RE.rate (G : Nat → AVal) {m : Heap} {p : Nat} {lv : AVal} {k : Int} {n : Nat} {last : Option S2} {L : List Int} (h : RE m p lv k n last L) :
    CallWP Try.prog G 19 [.ptr p 0] m fun v m' => v = .int .i64 (med L) ∧ m' = m := by
  obtain ⟨⟨b, l, h1, h2⟩, h3, h4, h5, h6, h7⟩ := h
  rcases h3 with ⟨rfl, rfl⟩ | ⟨c, blk, hb, pre, post, N, cap, rfl, rfl, hN, hc⟩
  · have := rrate_nil G k n b l p m h1
    simpa [med] using this
  · by_cases h0 : 0 < L.length
    · exact rrate_some G k n b l L pre post N cap c p m h1 hb h0 (by omega)
    · have e : L = [] := List.eq_nil_of_length_eq_zero (by omega)
      subst e
      exact rrate_zero G k n b l pre.length cap c p m h1
theorem RE.add (G : Nat → AVal) {m : Heap} {p : Nat} {lv : AVal} {k : Int} {n : Nat} {last : Option S2} {L : List Int} (h : RE m p lv k n last L) (s : S2) (hs : I64 s.1 ∧ I64 s.2) (K : AVal → Heap → Prop)
    (hK : ∀ (lv' : AVal) (m' : Heap), (∀ b, blkOf lv' = some b → m b = none ∨ blkOf lv = some b) → (∀ x, x ≠ p → blkOf lv ≠ some x → m x ≠ none → m' x = m x) → RE m' p lv' k n (some s) (addL last L k n s).2 → K (.bool (addL last L k n s).1) m') : CallWP Try.prog G 17 [.ptr p 0, encS s] m K := by
  obtain ⟨⟨b, l, h1, h2⟩, h3, h4, h5, h6, h7⟩ := h
  have hrow : ∀ (y : ABlk), SlM encI 1 L lv (hupd m p y) := fun y => h3.upd (fun c o l d e => by rw [e] at h4; simpa [blkOf] using h4)
  cases last with
  | none =>
    simp only at h2; subst h2
    refine radd_first G k n l s lv p m K h1 (hK lv _ (fun b hb => .inr hb) (fun z hz _ _ => hupd_ne hz) ⟨⟨true, s, by simp only [hupd_at, if_true], rfl, rfl, hs⟩, hrow _, h4, h5, h6, h7⟩)
  | some a =>
    obtain ⟨rfl, rfl, ha⟩ := h2
    refine radd_next G k n l s lv L p m K h1 h3 (fun c o l d e => by rw [e] at h4; simpa [blkOf] using h4) h5 h6 ha hs ⟨by omega, by omega⟩ (fun hr => ?_) (fun hr c blk lv' hc hcp hv => ?_)
    · have e : addL (some l) L k n s = (false, L) := by simp only [addL]; rw [if_neg (by rw [hr]; simp)]
      rw [e] at hK
      exact hK lv _ (fun b hb => .inr hb) (fun z hz _ _ => hupd_ne hz) ⟨⟨true, s, by simp only [hupd_at, if_true], rfl, rfl, hs⟩, hrow _, h4, h5, h6, h7⟩
    · have e : addL (some l) L k n s = (true, keepL L n (rateF l s k).1) := by simp only [addL]; rw [if_pos hr]
      rw [e] at hK
      have hv' := hv
      obtain ⟨pre, post, N, cap, rfl, _⟩ := hv'
      refine hK _ _ (fun b hb => ?_) (fun z hz hz2 hz3 => ?_) ⟨⟨true, s, by simp only [hupd_at, if_true], rfl, rfl, hs⟩, .inr ⟨c, blk, by rw [hupd_ne hcp, hupd_at, if_pos rfl], hv⟩, by simpa [blkOf] using hcp, ?_, h6, h7⟩
      · simp only [blkOf, Option.some.injEq] at hb
        subst hb
        rcases hc with hc | ⟨o, l', d, rfl⟩
        · exact .inl hc
        · exact .inr rfl
      · rw [hupd_ne hz, hupd_ne]
        intro e; subst e
        rcases hc with hc | ⟨o, l', d, rfl⟩
        · exact hz3 hc
        · exact hz2 rfl
      · unfold keepL; split
        · simp; omega
        · simp; omega
end Go.Proofs.Ythdglblbdobmoaa
