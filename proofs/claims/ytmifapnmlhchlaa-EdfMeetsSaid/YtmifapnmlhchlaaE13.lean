/- What is sent, and when: the plain law, and the memory of the run. -/
import Derived.Test.YtmifapnmlhchlaaE12
import Derived.Test.YtmifapnmlhchlaaE4
set_option linter.all false
namespace Go.Proofs.Ytmifapnmlhchlaa
open Go Go.Proofs.Ytmifapnmlhchlaa.Ab
open Go.Proofs (Try.prog)
/-- What waits is sent so, from some time on: the first that came by then and is ahead; where none came, the time is that of the next. -/
inductive Sends (n : Int) : List Wt → Int → List (Wt × Int) → Prop
  | nil (now : Int) : Sends n [] now []
  | cons {R R' : List Wt} {now t : Int} {w : Wt} {S : List (Wt × Int)} (hp : (w :: R').Perm R)
      (ht : (t = now ∧ ∃ u ∈ R, kT u ≤ now) ∨ (now < t ∧ (∃ u ∈ R, t = kT u) ∧ ∀ u ∈ R, t ≤ kT u)) (hw : kT w ≤ t) (hl : ∀ u ∈ R, kT u ≤ t → ltW n u w = false)
      (hs : Sends n R' (t + w.1.2.2.2) S) : Sends n R now ((w, t) :: S)
theorem Sends.to {n : Int} {R R2 : List Wt} {now : Int} {S : List (Wt × Int)} (h : Sends n R now S) (p : R.Perm R2) : Sends n R2 now S := by
  cases h with
  | nil => have := p.symm.eq_nil; subst this; exact .nil _
  | cons hp ht hw hl hs =>
    refine .cons (hp.trans p) ?_ hw (fun u hu => hl u (p.mem_iff.2 hu)) hs
    rcases ht with ⟨rfl, u, hu, h⟩ | ⟨h1, ⟨u, hu, h2⟩, h3⟩
    · exact .inl ⟨rfl, u, p.mem_iff.1 hu, h⟩
    · exact .inr ⟨h1, ⟨u, p.mem_iff.1 hu, h2⟩, fun u hu => h3 u (p.mem_iff.2 hu)⟩
theorem ltW_none {n : Int} {a b : Wt} (h1 : ltW n a b = false) (h2 : ltW n b a = false) : pT a = pT b := by
  rw [ltW_false] at h1 h2
  unfold LW LJ at h1 h2
  unfold pT
  omega
theorem nodup_map_inj {α β : Type} {f : α → β} {L : List α} (h : (L.map f).Nodup) {a b : α} (ha : a ∈ L) (hb : b ∈ L) (e : f a = f b) : a = b := by
  obtain ⟨i, hi, rfl⟩ := List.getElem_of_mem ha
  obtain ⟨j, hj, rfl⟩ := List.getElem_of_mem hb
  have hp := List.pairwise_iff_getElem.1 (List.nodup_iff_pairwise_ne.1 h)
  rcases Nat.lt_trichotomy i j with k | k | k
  · have := hp i j (by simpa using hi) (by simpa using hj) k
    simp only [List.getElem_map] at this
    exact absurd e this
  · subst k; rfl
  · have := hp j i (by simpa using hj) (by simpa using hi) k
    simp only [List.getElem_map] at this
    exact absurd e.symm this
theorem Sends.one {n : Int} {R : List Wt} {now : Int} {S : List (Wt × Int)} (h : Sends n R now S) : ∀ {R2 : List Wt} {S2 : List (Wt × Int)}, R.Perm R2 → (R.map pT).Nodup → Sends n R2 now S2 → S = S2 := by
  induction h with
  | nil now =>
    intro R2 S2 p _ h2
    have := p.symm.eq_nil
    subst this
    cases h2 with
    | nil => rfl
    | cons hp => exact absurd hp.eq_nil (by simp)
  | @cons R R' now t w S hp ht hw hl hs ih =>
    intro R2 S2 p nd h2
    cases h2 with
    | nil => exact absurd (hp.trans p).eq_nil (by simp)
    | @cons _ R2' _ t2 w2 S2 hp2 ht2 hw2 hl2 hs2 =>
      have et : t = t2 := by
        rcases ht with ⟨rfl, u, hu, h⟩ | ⟨h1, ⟨u, hu, h2⟩, h3⟩
        · rcases ht2 with ⟨rfl, _⟩ | ⟨k1, ⟨x, hx, k2⟩, k3⟩
          · rfl
          · have := k3 u (p.mem_iff.1 hu); omega
        · rcases ht2 with ⟨rfl, x, hx, k⟩ | ⟨k1, ⟨x, hx, k2⟩, k3⟩
          · have := h3 x (p.mem_iff.2 hx); omega
          · have a := k3 u (p.mem_iff.1 hu)
            have b := h3 x (p.mem_iff.2 hx)
            omega
      subst et
      have ew : w = w2 := by
        have m1 : w ∈ R := hp.mem_iff.1 (by simp)
        have m2 : w2 ∈ R := p.mem_iff.2 (hp2.mem_iff.1 (by simp))
        have e := ltW_none (hl w2 m2 hw2) (hl2 w (p.mem_iff.1 m1) hw)
        exact (nodup_map_inj nd m1 m2 e.symm)
      subst ew
      have p' : R'.Perm R2' := (hp.trans (p.trans hp2.symm)).cons_inv
      have nd' : (R'.map pT).Nodup := by
        have := (hp.map pT).nodup_iff.2 nd
        exact (List.nodup_cons.1 this).2
      rw [ih p' nd' hs2]
theorem Sends.perm {n : Int} {R : List Wt} {now : Int} {S : List (Wt × Int)} (h : Sends n R now S) : (S.map Prod.fst).Perm R := by
  induction h with
  | nil => exact .nil
  | cons hp _ _ _ _ ih => exact (List.Perm.cons _ ih).trans hp
/-- What is sent, in cells. -/
abbrev encSt (x : Wt × Int) : List AVal := [.int .i64 x.1.2, .int .i64 x.2, .int .i64 (x.2 + x.1.1.2.2.2)]
theorem encSt_len (x : Wt × Int) : (encSt x).length = 3 := rfl
theorem slm_some {α : Type} {enc : α → List AVal} {sz : Nat} {C : List α} {v : AVal} {m : Heap} (h : SlM enc sz C v m) {c : Nat} (hc : bOf v = some c) : m c ≠ none := by
  rcases h with ⟨rfl, _⟩ | ⟨c', blk, hb', pre, post, N', cap, rfl, _⟩
  · cases hc
  · simp only [bOf, Option.some.injEq] at hc; subst hc; rw [hb']; simp
/-- The memory of the run. -/
structure Mem (n : Int) (m m' : Heap) (p : Nat) (v vn vo : AVal) (H nx : List Wt) (S : List (Wt × Int)) : Prop where
  hp : HP m' p v n H
  nx : SlM encC 5 nx vn m'
  out : SlM encSt 3 S vo m'
  sub : Sub m m'
  fp : m p = none
  fv : ∀ c, bOf v = some c → m c = none
  fn : ∀ c, bOf vn = some c → m c = none
  fo : ∀ c, bOf vo = some c → m c = none
  np : bOf vn ≠ some p
  op : bOf vo ≠ some p
  nv : ∀ c, bOf v = some c → bOf vn ≠ some c
  ov : ∀ c, bOf v = some c → bOf vo ≠ some c
  no : ∀ c, bOf vn = some c → bOf vo ≠ some c
theorem Mem.heap {n : Int} {m m' m2 : Heap} {p : Nat} {v v2 vn vo : AVal} {H H2 nx : List Wt} {S : List (Wt × Int)} (h : Mem n m m' p v vn vo H nx S) (f : Fr p v m' v2 m2) (h2 : HP m2 p v2 n H2) : Mem n m m2 p v2 vn vo H2 nx S where
  hp := h2
  nx := h.nx.keep fun c hc => f.1 c (fun e => h.np (by rw [hc, e])) (fun e => h.nv c e hc) (slm_some h.nx hc)
  out := h.out.keep fun c hc => f.1 c (fun e => h.op (by rw [hc, e])) (fun e => h.ov c e hc) (slm_some h.out hc)
  sub := fun x y hx => by
    rw [f.1 x (fun e => by rw [e, h.fp] at hx; cases hx) (fun e => by rw [h.fv x e] at hx; cases hx) (by rw [h.sub x y hx]; simp)]
    exact h.sub x y hx
  fp := h.fp
  fv := fun c hc => by
    rcases f.2 c hc with e | e
    · exact h.sub.gone e
    · exact h.fv c e
  fn := h.fn
  fo := h.fo
  np := h.np
  op := h.op
  nv := fun c hc e => by
    rcases f.2 c hc with k | k
    · exact slm_some h.nx e k
    · exact h.nv c k e
  ov := fun c hc e => by
    rcases f.2 c hc with k | k
    · exact slm_some h.out e k
    · exact h.ov c k e
  no := h.no
/-- More blocks. -/
theorem Mem.into {n : Int} {m m' m2 : Heap} {p : Nat} {v vn vo : AVal} {H nx : List Wt} {S : List (Wt × Int)} (h : Mem n m m' p v vn vo H nx S) (s : Sub m' m2) : Mem n m m2 p v vn vo H nx S where
  hp := h.hp.into s
  nx := h.nx.into s
  out := h.out.into s
  sub := fun x y hx => s x y (h.sub x y hx)
  fp := h.fp
  fv := h.fv
  fn := h.fn
  fo := h.fo
  np := h.np
  op := h.op
  nv := h.nv
  ov := h.ov
  no := h.no
theorem Mem.sent {n : Int} {m m' m2 : Heap} {p : Nat} {v vn vo vo2 : AVal} {H nx : List Wt} {S S2 : List (Wt × Int)} (h : Mem n m m' p v vn vo H nx S) (f : AppFr vo m' vo2 m2) (h2 : SlM encSt 3 S2 vo2 m2) : Mem n m m2 p v vn vo2 H nx S2 where
  hp := h.hp.keep (f.1 p h.op (by rw [h.hp.at_]; simp)) fun c hc => f.1 c (h.ov c hc) (slm_some h.hp.row hc)
  nx := h.nx.keep fun c hc => f.1 c (h.no c hc) (slm_some h.nx hc)
  out := h2
  sub := fun x y hx => by
    rw [f.1 x (fun e => by rw [h.fo x e] at hx; cases hx) (by rw [h.sub x y hx]; simp)]
    exact h.sub x y hx
  fp := h.fp
  fv := h.fv
  fn := h.fn
  fo := fun c hc => by
    rcases f.2 c hc with e | e
    · exact h.sub.gone e
    · exact h.fo c e
  np := h.np
  op := fun e => by
    rcases f.2 p e with k | k
    · rw [h.hp.at_] at k; cases k
    · exact h.op k
  nv := h.nv
  ov := fun c hc e => by
    rcases f.2 c e with k | k
    · exact slm_some h.hp.row hc k
    · exact h.ov c hc k
  no := fun c hc e => by
    rcases f.2 c e with k | k
    · exact slm_some h.nx hc k
    · exact h.no c hc k
/-- The first of what comes is taken. -/
theorem Mem.tail {n : Int} {m m' : Heap} {p b cap : Nat} {v vo : AVal} {H nx : List Wt} {S : List (Wt × Int)} {x : Wt} {pre post : List AVal} {N : Nat}
    (h : Mem n m m' p v (.slice b pre.length (nx.length + 1) cap) vo H (x :: nx) S) (hb : m' b = some (.cells (pre ++ ((x :: nx).flatMap encC ++ post)) N)) (hN : pre.length + cap * 5 ≤ N) (hc : nx.length + 1 ≤ cap) : Mem n m m' p v (.slice b (pre.length + 5) nx.length (cap - 1)) vo H nx S where
  hp := h.hp
  nx := .inr ⟨b, _, hb, pre ++ encC x, post, N, cap - 1, by simp, by simp, by simp only [List.length_append, encC_len]; omega, by omega⟩
  out := h.out
  sub := h.sub
  fp := h.fp
  fv := h.fv
  fn := fun c hc => h.fn c hc
  fo := h.fo
  np := fun e => h.np e
  op := h.op
  nv := fun c hc e => h.nv c hc e
  ov := h.ov
  no := fun c hc e => h.no c hc e
end Go.Proofs.Ytmifapnmlhchlaa
