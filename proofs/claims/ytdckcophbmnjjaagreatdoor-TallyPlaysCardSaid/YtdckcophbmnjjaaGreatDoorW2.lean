/- A table of frames, in plain words: what came, what became of it, and its rows. A table's rows: how one counts. -/
import Derived.Test.YtdckcophbmnjjaaGreatDoorY12
set_option linter.all false
namespace Go.Proofs.YtdckcophbmnjjaaGreatDoor
open Go Go.Proofs.YtdckcophbmnjjaaGreatDoor.Ab
/-- A job: stream, release, deadline, cost. -/
abbrev Jb := Int × Int × Int × Int
/-- A frame that came: tag, job, fate, and when. -/
abbrev Ntd := Int × Jb × Int × Int
abbrev Ntd.tag (x : Ntd) : Int := x.1
abbrev Ntd.job (x : Ntd) : Jb := x.2.1
abbrev Ntd.fate (x : Ntd) : Int := x.2.2.1
abbrev Ntd.at' (x : Ntd) : Int := x.2.2.2
/-- A row: taken; six fates; the worst, the best, and whether one was delivered. -/
abbrev RowT := Int × (Int × Int × Int × Int × Int × Int) × Int × Int × Bool
def cntP (p : Ntd → Bool) (L : List Ntd) : Int := (L.map fun x => if p x then 1 else 0).sum
def latesP (p : Ntd → Bool) (L : List Ntd) : List Int := (L.filter fun x => p x && decide (x.fate = 1)).map fun x => x.at' - x.job.2.2.1
def mxo : List Int → Option Int
  | [] => none
  | a :: t => some (match mxo t with | none => a | some b => imx b a)
def mno : List Int → Option Int
  | [] => none
  | a :: t => some (match mno t with | none => a | some b => imn b a)
def fateP (p : Ntd → Bool) (f : Int) (x : Ntd) : Bool := p x && decide (x.fate = f)
/-- A row of those that are such. -/
def rowOf (p : Ntd → Bool) (L : List Ntd) : RowT := (cntP p L, (cntP (fateP p 0) L, cntP (fateP p 1) L, cntP (fateP p 2) L, cntP (fateP p 3) L, cntP (fateP p 4) L, cntP (fateP p 5) L), (mxo (latesP p L)).getD 0, (mno (latesP p L)).getD 0, !(latesP p L).isEmpty)
def cameR (r : RowT) : RowT := (r.1 + 1, (r.2.1.1 + 1, r.2.1.2), r.2.2)
def turnR (r : RowT) (k : Int) : RowT :=
  (r.1, (r.2.1.1 - 1, if k = 1 then r.2.1.2.1 + 1 else r.2.1.2.1, if k = 2 then r.2.1.2.2.1 + 1 else r.2.1.2.2.1, if k = 3 then r.2.1.2.2.2.1 + 1 else r.2.1.2.2.2.1, if k = 4 then r.2.1.2.2.2.2.1 + 1 else r.2.1.2.2.2.2.1, if k = 5 then r.2.1.2.2.2.2.2 + 1 else r.2.1.2.2.2.2.2), r.2.2)
def endR (r : RowT) (past : Int) : RowT := (r.1, r.2.1, if r.2.2.2.2 then imx r.2.2.1 past else past, if r.2.2.2.2 then imn r.2.2.2.1 past else past, true)
theorem cnt_append (p : Ntd → Bool) (L M : List Ntd) : cntP p (L ++ M) = cntP p L + cntP p M := by unfold cntP; rw [List.map_append, List.sum_append]
theorem cnt_one (p : Ntd → Bool) (x : Ntd) : cntP p [x] = if p x then 1 else 0 := by simp [cntP]
theorem cnt_in (p : Ntd → Bool) (L : List Ntd) : 0 ≤ cntP p L ∧ cntP p L ≤ L.length := by
  unfold cntP
  induction L with
  | nil => simp
  | cons a t ih => rw [List.map_cons, List.sum_cons, List.length_cons]; split <;> omega
theorem cnt_set (p : Ntd → Bool) : ∀ (L : List Ntd) (i : Nat) (x : Ntd) (h : i < L.length), cntP p (L.set i x) = cntP p L - (if p L[i] then 1 else 0) + (if p x then 1 else 0)
  | [], i, x, h => by simp at h
  | a :: t, 0, x, h => by simp only [List.set_cons_zero, cntP, List.map_cons, List.sum_cons, List.getElem_cons_zero]; omega
  | a :: t, i + 1, x, h => by
    have ih := cnt_set p t i x (by simpa using h)
    simp only [List.set_cons_succ, List.getElem_cons_succ]
    unfold cntP at ih ⊢
    rw [List.map_cons, List.sum_cons, List.map_cons, List.sum_cons, ih]; omega
theorem imx_comm (a b : Int) : imx a b = imx b a := by unfold imx; split <;> split <;> omega
theorem imx_assoc (a b c : Int) : imx (imx a b) c = imx a (imx b c) := by unfold imx; (repeat' split) <;> omega
theorem imn_comm (a b : Int) : imn a b = imn b a := by unfold imn; split <;> split <;> omega
theorem imn_assoc (a b c : Int) : imn (imn a b) c = imn a (imn b c) := by unfold imn; (repeat' split) <;> omega
theorem imx_rc (a b c : Int) : imx (imx a b) c = imx (imx a c) b := by rw [imx_assoc, imx_comm b c, ← imx_assoc]
theorem imn_rc (a b c : Int) : imn (imn a b) c = imn (imn a c) b := by rw [imn_assoc, imn_comm b c, ← imn_assoc]
theorem mxo_perm {l k : List Int} (h : l.Perm k) : mxo l = mxo k := by
  induction h with
  | nil => rfl
  | cons a _ ih => simp only [mxo, ih]
  | swap a b t =>
    simp only [mxo]
    cases mxo t with
    | none => simp only; rw [imx_comm]
    | some c => simp only; rw [imx_rc]
  | trans _ _ h1 h2 => rw [h1, h2]
theorem mno_perm {l k : List Int} (h : l.Perm k) : mno l = mno k := by
  induction h with
  | nil => rfl
  | cons a _ ih => simp only [mno, ih]
  | swap a b t =>
    simp only [mno]
    cases mno t with
    | none => simp only; rw [imn_comm]
    | some c => simp only; rw [imn_rc]
  | trans _ _ h1 h2 => rw [h1, h2]
theorem mxo_none {l : List Int} : mxo l = none ↔ l = [] := by cases l <;> simp [mxo]
theorem mno_none {l : List Int} : mno l = none ↔ l = [] := by cases l <;> simp [mno]
theorem lates_append (p : Ntd → Bool) (L M : List Ntd) : latesP p (L ++ M) = latesP p L ++ latesP p M := by unfold latesP; rw [List.filter_append, List.map_append]
theorem lates_one (p : Ntd → Bool) (x : Ntd) : latesP p [x] = if p x = true ∧ x.fate = 1 then [x.at' - x.job.2.2.1] else [] := by
  unfold latesP
  by_cases h : p x = true ∧ x.fate = 1
  · rw [if_pos h, List.filter_cons_of_pos (by simpa using h)]; rfl
  · rw [if_neg h, List.filter_cons_of_neg (by simpa using h)]; rfl
theorem perm_isE {l k : List Int} (h : l.Perm k) : l.isEmpty = k.isEmpty := by
  have := h.length_eq
  cases l <;> cases k <;> simp_all
theorem split_at {L : List Ntd} {i : Nat} (h : i < L.length) : L = L.take i ++ ([L[i]] ++ L.drop (i + 1)) := by
  have := List.take_append_drop i L
  rw [List.drop_eq_getElem_cons h] at this
  simpa using this.symm
theorem set_split {L : List Ntd} {i : Nat} (x : Ntd) (h : i < L.length) : L.set i x = L.take i ++ ([x] ++ L.drop (i + 1)) := by
  rw [List.set_eq_take_append_cons_drop, if_pos h]; rfl
theorem lates_set {p : Ntd → Bool} {L : List Ntd} {i : Nat} {x : Ntd} (h : i < L.length) (h0 : ¬ (p L[i] = true ∧ L[i].fate = 1)) : (latesP p (L.set i x)).Perm ((if p x = true ∧ x.fate = 1 then [x.at' - x.job.2.2.1] else []) ++ latesP p L) := by
  rw [set_split x h, lates_append, lates_append, lates_one]
  have e : latesP p L = latesP p (L.take i) ++ latesP p (L.drop (i + 1)) := by
    conv => lhs; rw [split_at h, lates_append, lates_append, lates_one, if_neg h0]
    rfl
  rw [e]
  generalize (if p x = true ∧ x.fate = 1 then [x.at' - x.job.2.2.1] else []) = z
  rw [← List.append_assoc, ← List.append_assoc]
  exact List.perm_append_comm.append_right _
/-- One that came. -/
theorem row_came (p : Ntd → Bool) (L : List Ntd) (t : Int) (j : Jb) : rowOf p (L ++ [(t, j, 0, 0)]) = if p (t, j, 0, 0) then cameR (rowOf p L) else rowOf p L := by
  have hl : latesP p (L ++ [(t, j, 0, 0)]) = latesP p L := by
    rw [lates_append, lates_one, if_neg (fun h => absurd (show (0 : Int) = 1 from h.2) (by decide)), List.append_nil]
  unfold rowOf
  rw [hl]
  simp only [cnt_append, cnt_one, fateP]
  split
  · rename_i h; simp [h, cameR, Ntd.fate]
  · rename_i h; simp [h]
/-- What became of one. -/
theorem row_turn (p : Ntd → Bool) (L : List Ntd) (i : Nat) (h : i < L.length) (k at1 : Int) (h0 : L[i].fate = 0) (hp : p (L[i].1, L[i].2.1, k, at1) = p L[i]) (hk : 1 ≤ k ∧ k ≤ 5) :
    rowOf p (L.set i (L[i].1, L[i].2.1, k, at1)) = if p L[i] then (if k = 1 then endR (turnR (rowOf p L) k) (at1 - L[i].job.2.2.1) else turnR (rowOf p L) k) else rowOf p L := by
  have hlp := lates_set (p := p) (x := (L[i].1, L[i].2.1, k, at1)) h (fun hh => by rw [h0] at hh; exact absurd hh.2 (by decide))
  have hfx : ∀ f, fateP p f (L[i].1, L[i].2.1, k, at1) = (p L[i] && decide (k = f)) := fun f => by unfold fateP; rw [hp]
  have hfi : ∀ f, fateP p f L[i] = (p L[i] && decide (0 = f)) := fun f => by unfold fateP; rw [h0]
  unfold rowOf
  simp only [cnt_set _ L i _ h, hfx, hfi]
  rw [hp]
  by_cases hpi : p L[i] = true
  · simp only [hpi, if_true, Bool.true_and]
    by_cases hk1 : k = 1
    · have e : (if p (L[i].1, L[i].2.1, k, at1) = true ∧ (L[i].1, L[i].2.1, k, at1).2.2.1 = 1 then [(L[i].1, L[i].2.1, k, at1).2.2.2 - (L[i].1, L[i].2.1, k, at1).2.1.2.2.1] else []) = [at1 - L[i].2.1.2.2.1] := if_pos ⟨by rw [hp]; exact hpi, hk1⟩
      rw [show (if p (L[i].1, L[i].2.1, k, at1) = true ∧ Ntd.fate (L[i].1, L[i].2.1, k, at1) = 1 then [Ntd.at' (L[i].1, L[i].2.1, k, at1) - (Ntd.job (L[i].1, L[i].2.1, k, at1)).2.2.1] else []) = _ from e] at hlp
      rw [mxo_perm hlp, mno_perm hlp, if_pos hk1]
      have hne : (latesP p (L.set i (L[i].1, L[i].2.1, k, at1))).isEmpty = false := by
        have := hlp.length_eq
        cases hc : latesP p (L.set i (L[i].1, L[i].2.1, k, at1)) with
        | nil => rw [hc] at this; simp at this
        | cons => rfl
      rw [hne]
      subst hk1
      unfold endR turnR
      cases hl : latesP p L with
      | nil => simp [mxo, mno]
      | cons a t =>
        simp [mxo, mno]
    · have e : (if p (L[i].1, L[i].2.1, k, at1) = true ∧ Ntd.fate (L[i].1, L[i].2.1, k, at1) = 1 then [Ntd.at' (L[i].1, L[i].2.1, k, at1) - (Ntd.job (L[i].1, L[i].2.1, k, at1)).2.2.1] else []) = [] := if_neg (fun hh => hk1 hh.2)
      rw [e, List.nil_append] at hlp
      have hne := perm_isE hlp
      rw [mxo_perm hlp, mno_perm hlp, hne, if_neg hk1]
      unfold turnR
      have k0 : ¬ k = 0 := by omega
      simp [k0, hk1, show ¬ (0 : Int) = 1 by decide, show ¬ (0 : Int) = 2 by decide, show ¬ (0 : Int) = 3 by decide, show ¬ (0 : Int) = 4 by decide, show ¬ (0 : Int) = 5 by decide]
      refine ⟨?_, ?_, ?_, ?_⟩ <;> split <;> simp_all
  · have hpf : p L[i] = false := by simpa using hpi
    rw [if_neg (fun hh => hpi (by rw [← hp]; exact hh.1)), List.nil_append] at hlp
    have hne := perm_isE hlp
    rw [mxo_perm hlp, mno_perm hlp, hne]
    simp [hpf]
end Go.Proofs.YtdckcophbmnjjaaGreatDoor
namespace Go.Proofs.YtdckcophbmnjjaaGreatDoor
open Go Go.Proofs.YtdckcophbmnjjaaGreatDoor.Ab
open Go.Proofs (Tryz.prog)
set_option maxRecDepth 100000
/-- A row's cells. -/
def rcel (id : Int) (r : RowT) : List AVal := [.int .i64 id, .int .i64 r.1, .int .i64 r.2.1.1, .int .i64 r.2.1.2.1, .int .i64 r.2.1.2.2.1, .int .i64 r.2.1.2.2.2.1, .int .i64 r.2.1.2.2.2.2.1, .int .i64 r.2.1.2.2.2.2.2, .int .i64 r.2.2.1, .int .i64 r.2.2.2.1, .bool r.2.2.2.2]
/-- A row by itself; a row inside a table. -/
def rowA (id : Int) (r : RowT) : ABlk := .cells (rcel id r) 11
def rowB (v : AVal) (rm fm : Nat) (id : Int) (r : RowT) : ABlk := .cells (v :: .map rm :: (rcel id r ++ [.map fm])) 14
def SmallR (r : RowT) : Prop := (0 ≤ r.1 ∧ r.1 ≤ 1000000) ∧ (0 ≤ r.2.1.1 ∧ r.2.1.1 ≤ 1000000) ∧ (0 ≤ r.2.1.2.1 ∧ r.2.1.2.1 ≤ 1000000) ∧ (0 ≤ r.2.1.2.2.1 ∧ r.2.1.2.2.1 ≤ 1000000) ∧ (0 ≤ r.2.1.2.2.2.1 ∧ r.2.1.2.2.2.1 ≤ 1000000) ∧ (0 ≤ r.2.1.2.2.2.2.1 ∧ r.2.1.2.2.2.2.1 ≤ 1000000) ∧ (0 ≤ r.2.1.2.2.2.2.2 ∧ r.2.1.2.2.2.2.2 ≤ 1000000)
theorem row_small (p : Ntd → Bool) (L : List Ntd) (h : L.length ≤ 1000000) : SmallR (rowOf p L) := by
  have c := fun q => cnt_in q L
  have h' : (L.length : Int) ≤ 1000000 := by omega
  have b := fun q => (⟨(c q).1, Int.le_trans (c q).2 h'⟩ : 0 ≤ cntP q L ∧ cntP q L ≤ 1000000)
  exact ⟨b _, b _, b _, b _, b _, b _, b _⟩
set_option maxHeartbeats 1000000 in
theorem came_spec (G : Nat → AVal) (b o : Nat) (id : Int) (r : RowT) (hr : SmallR r) (v : AVal) (rm fm : Nat) (m : Heap) (hb : (o = 0 ∧ m b = some (rowA id r)) ∨ (o = 2 ∧ m b = some (rowB v rm fm id r))) :
    CallWP Tryz.prog G 28 [.ptr b o] m fun w m' => w = .tuple [] ∧ m' = hupd m b (if o = 0 then rowA id (cameR r) else rowB v rm fm id (cameR r)) := by
  obtain ⟨tk, ⟨f0, f1, f2, f3, f4, f5⟩, wo, be, so⟩ := r
  obtain ⟨h1, h2, -⟩ := hr
  simp only at h1 h2
  have w1 : IntKind.i64.wrap (tk + 1) = tk + 1 := wrap_i64 (by omega) (by omega)
  have w2 : IntKind.i64.wrap (f0 + 1) = f0 + 1 := wrap_i64 (by omega) (by omega)
  rcases hb with ⟨rfl, hb⟩ | ⟨rfl, hb⟩
  all_goals (
    simp only [rowA, rowB, rcel, List.cons_append, List.nil_append] at hb
    refine callWP_body Tryz.func28 rfl (N := 22) rfl (rs := []) rfl en_28 (of_decide_eq_true rfl) ?_
    repeat' (first | exact tf0 ‹_› | exact tf1 ‹_› | exact False.elim ‹_› | (with_reducible refine Al.intro ?_; intro pb hpb; (try simp only [hupd_none'] at hpb); (repeat rcases hpb with ⟨⟨hpx, hpy⟩, hpb⟩)) | with_reducible refine need ?_ | ((with_reducible first | apply frk0 | apply frk1 | apply frk2 | apply frk3 | apply frk4 | apply frk5 | apply frk6 | apply frk7 | apply frk8 | apply frk9) <;> intro h <;> try (exfalso; omega)) | with_reducible refine quiet_and ?_ ?_ | with_reducible refine awp_drawnA mixed (by decide +kernel) ?_ | ((fail_if_success with_reducible refine stp ?_); simp -implicitDefEqProofs only [go_sem, Nat.reduceEqDiff, Nat.reduceAdd, Nat.reduceLT, Nat.reduceMul, Nat.reduceSub, Nat.reduceLeDiff, ↓reduceIte, reduceCtorEq, ↓String.reduceEq, String.reduceNe, Int.reduceToNat, Int.reduceLT, Int.reduceLE, Int.reduceGT, Int.reduceGE, Int.reduceEq, Int.reduceNe, Int.reduceBEq, Int.reduceBNe, Int.reduceAdd, Int.reduceSub, Int.reduceMul, Int.reduceNeg,  *]))
    refine ⟨_, Sub.refl _, rfl, ?_⟩
    simp [rowA, rowB, rcel, cameR])
set_option maxHeartbeats 2000000 in
theorem turn_spec (G : Nat → AVal) (b o : Nat) (id : Int) (r : RowT) (hr : SmallR r) (k : Int) (hk : k = 1 ∨ k = 2 ∨ k = 3 ∨ k = 4 ∨ k = 5) (v : AVal) (rm fm : Nat) (m : Heap) (hb : (o = 0 ∧ m b = some (rowA id r)) ∨ (o = 2 ∧ m b = some (rowB v rm fm id r))) :
    CallWP Tryz.prog G 31 [.ptr b o, .int .i64 0, .int .i64 k] m fun w m' => w = .tuple [] ∧ m' = hupd m b (if o = 0 then rowA id (turnR r k) else rowB v rm fm id (turnR r k)) := by
  obtain ⟨tk, ⟨f0, f1, f2, f3, f4, f5⟩, wo, be, so⟩ := r
  obtain ⟨h1, h2, h3, h4, h5, h6, h7⟩ := hr
  simp only at h1 h2 h3 h4 h5 h6 h7
  have w1 : IntKind.i64.wrap (f0 - 1) = f0 - 1 := wrap_i64 (by omega) (by omega)
  have w2 : IntKind.i64.wrap (f1 + 1) = f1 + 1 := wrap_i64 (by omega) (by omega)
  have w3 : IntKind.i64.wrap (f2 + 1) = f2 + 1 := wrap_i64 (by omega) (by omega)
  have w4 : IntKind.i64.wrap (f3 + 1) = f3 + 1 := wrap_i64 (by omega) (by omega)
  have w5 : IntKind.i64.wrap (f4 + 1) = f4 + 1 := wrap_i64 (by omega) (by omega)
  have w6 : IntKind.i64.wrap (f5 + 1) = f5 + 1 := wrap_i64 (by omega) (by omega)
  clear h1 h2 h3 h4 h5 h6 h7
  rcases hk with rfl | rfl | rfl | rfl | rfl
  all_goals (
    rcases hb with ⟨rfl, hb⟩ | ⟨rfl, hb⟩
    all_goals (
      simp only [rowA, rowB, rcel, List.cons_append, List.nil_append] at hb
      refine callWP_body Tryz.func31 rfl (N := 30) rfl (rs := []) rfl en_31 (of_decide_eq_true rfl) ?_
      repeat' (first | exact tf0 ‹_› | exact tf1 ‹_› | exact False.elim ‹_› | (with_reducible refine Al.intro ?_; intro pb hpb; (try simp only [hupd_none'] at hpb); (repeat rcases hpb with ⟨⟨hpx, hpy⟩, hpb⟩)) | with_reducible refine need ?_ | ((with_reducible first | apply frk0 | apply frk1 | apply frk2 | apply frk3 | apply frk4 | apply frk5 | apply frk6 | apply frk7 | apply frk8 | apply frk9) <;> intro h <;> try (exfalso; omega)) | with_reducible refine quiet_and ?_ ?_ | with_reducible refine awp_drawnA mixed (by decide +kernel) ?_ | ((fail_if_success with_reducible refine stp ?_); simp -implicitDefEqProofs only [go_sem, Nat.reduceEqDiff, Nat.reduceAdd, Nat.reduceLT, Nat.reduceMul, Nat.reduceSub, Nat.reduceLeDiff, ↓reduceIte, reduceCtorEq, ↓String.reduceEq, String.reduceNe, Int.reduceToNat, Int.reduceLT, Int.reduceLE, Int.reduceGT, Int.reduceGE, Int.reduceEq, Int.reduceNe, Int.reduceBEq, Int.reduceBNe, Int.reduceAdd, Int.reduceSub, Int.reduceMul, Int.reduceNeg,  *]))
      refine ⟨_, Sub.refl _, rfl, ?_⟩
      simp [rowA, rowB, rcel, turnR]))
set_option maxHeartbeats 2000000 in
theorem end_spec (G : Nat → AVal) (b o : Nat) (id : Int) (r : RowT) (past : Int) (v : AVal) (rm fm : Nat) (m : Heap) (hb : (o = 0 ∧ m b = some (rowA id r)) ∨ (o = 2 ∧ m b = some (rowB v rm fm id r))) :
    CallWP Tryz.prog G 32 [.ptr b o, .int .i64 past] m fun w m' => w = .tuple [] ∧ m' = hupd m b (if o = 0 then rowA id (endR r past) else rowB v rm fm id (endR r past)) := by
  obtain ⟨tk, ⟨f0, f1, f2, f3, f4, f5⟩, wo, be, so⟩ := r
  have e1 : imx past past = past := by unfold imx; split <;> rfl
  have e2 : imn past past = past := by unfold imn; split <;> rfl
  obtain ⟨x1, hx1⟩ : ∃ x, imx wo past = x := ⟨_, rfl⟩
  obtain ⟨x2, hx2⟩ : ∃ x, imn be past = x := ⟨_, rfl⟩
  cases so
  all_goals (
    rcases hb with ⟨rfl, hb⟩ | ⟨rfl, hb⟩
    all_goals (
      simp only [rowA, rowB, rcel, List.cons_append, List.nil_append] at hb
      refine callWP_body Tryz.func32 rfl (N := 44) rfl (rs := []) rfl en_32 (of_decide_eq_true rfl) ?_
      repeat' (first | exact tf0 ‹_› | exact tf1 ‹_› | exact False.elim ‹_› | (with_reducible refine Al.intro ?_; intro pb hpb; (try simp only [hupd_none'] at hpb); (repeat rcases hpb with ⟨⟨hpx, hpy⟩, hpb⟩)) | with_reducible refine need ?_ | ((with_reducible first | apply frk0 | apply frk1 | apply frk2 | apply frk3 | apply frk4 | apply frk5 | apply frk6 | apply frk7 | apply frk8 | apply frk9) <;> intro h <;> try (exfalso; omega)) | with_reducible refine quiet_and ?_ ?_ | with_reducible refine awp_drawnA mixed (by decide +kernel) ?_ | ((fail_if_success with_reducible refine stp ?_); simp -implicitDefEqProofs only [go_sem, Nat.reduceEqDiff, Nat.reduceAdd, Nat.reduceLT, Nat.reduceMul, Nat.reduceSub, Nat.reduceLeDiff, ↓reduceIte, reduceCtorEq, ↓String.reduceEq, String.reduceNe, Int.reduceToNat, Int.reduceLT, Int.reduceLE, Int.reduceGT, Int.reduceGE, Int.reduceEq, Int.reduceNe, Int.reduceBEq, Int.reduceBNe, Int.reduceAdd, Int.reduceSub, Int.reduceMul, Int.reduceNeg,  *]))
      refine ⟨_, Sub.refl _, rfl, ?_⟩
      simp [rowA, rowB, rcel, endR, hx1, hx2]))
set_option maxHeartbeats 2000000 in
theorem both_spec (G : Nat → AVal) (tb : Nat) (id : Int) (r : RowT) (v : AVal) (rm fm rb : Nat) (es : List (Int × AVal)) (bs : List Nat) (cl : Nat) (st : Int) (m : Heap) (hb : m tb = some (rowB v rm fm id r)) (hm : m rm = some (.map es bs cl)) (hg : mget es st = some (.ptr rb 0)) :
    CallWP Tryz.prog G 27 [.ptr tb 0, .int .i64 st] m fun w m' => w = .agg [.ptr rb 0, .ptr tb 2] ∧ m' = m := by
  obtain ⟨tk, ⟨f0, f1, f2, f3, f4, f5⟩, wo, be, so⟩ := r
  simp only [rowB, rcel, List.cons_append, List.nil_append] at hb
  have fr1 : ∀ c, m c = none → (tb = c) = False := fun c h => by rw [eq_iff_iff, iff_false]; rintro rfl; rw [hb] at h; cases h
  have fr2 : ∀ c, m c = none → (rm = c) = False := fun c h => by rw [eq_iff_iff, iff_false]; rintro rfl; rw [hm] at h; cases h
  refine callWP_body Tryz.func27 rfl (N := 15) rfl (rs := [.cell 4 79]) rfl en_27 (of_decide_eq_true rfl) ?_
  repeat' (first | exact tf0 ‹_› | exact tf1 ‹_› | exact False.elim ‹_› | (with_reducible refine Al.intro ?_; intro pb hpb; (try simp only [hupd_none'] at hpb); (repeat rcases hpb with ⟨⟨hpx, hpy⟩, hpb⟩)) | with_reducible refine need ?_ | ((with_reducible first | apply frk0 | apply frk1 | apply frk2 | apply frk3 | apply frk4 | apply frk5 | apply frk6 | apply frk7 | apply frk8 | apply frk9) <;> intro h <;> try (exfalso; omega)) | with_reducible refine quiet_and ?_ ?_ | with_reducible refine awp_drawnA mixed (by decide +kernel) ?_ | ((fail_if_success with_reducible refine stp ?_); simp -implicitDefEqProofs only [go_sem, Nat.reduceEqDiff, Nat.reduceAdd, Nat.reduceLT, Nat.reduceMul, Nat.reduceSub, Nat.reduceLeDiff, ↓reduceIte, reduceCtorEq, ↓String.reduceEq, String.reduceNe, Int.reduceToNat, Int.reduceLT, Int.reduceLE, Int.reduceGT, Int.reduceGE, Int.reduceEq, Int.reduceNe, Int.reduceBEq, Int.reduceBNe, Int.reduceAdd, Int.reduceSub, Int.reduceMul, Int.reduceNeg,  *]))
  exact ⟨_, (Sub.refl _).fresh hpb, rfl, rfl⟩
end Go.Proofs.YtdckcophbmnjjaaGreatDoor
