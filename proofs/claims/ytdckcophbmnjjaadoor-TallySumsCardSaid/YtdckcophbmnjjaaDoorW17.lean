/- What is summed up over a table's rows. What the streams' rows count is what the whole counts. -/
import Derived.Test.YtdckcophbmnjjaaDoorW15
set_option linter.all false
namespace Go.Proofs.YtdckcophbmnjjaaDoor
open Go Go.Proofs.YtdckcophbmnjjaaDoor.Ab
set_option maxRecDepth 100000
theorem takeF_err {C : List Stm} {L : List Ntd} {tag : Int} {j : Jb} (h : (takeF C L tag j).1 ≠ 0) : (takeF C L tag j).2 = L := by
  unfold takeF at h ⊢
  split
  · rfl
  · rename_i h1
    rw [if_neg h1] at h
    split
    · rfl
    · rename_i h2
      rw [if_neg h2] at h
      split
      · rfl
      · rename_i h3; rw [if_neg h3] at h; exact absurd rfl h
theorem fateF_err {L : List Ntd} {tag k at1 : Int} (h : (fateF L tag k at1).1 ≠ 0) : (fateF L tag k at1).2 = L := by
  unfold fateF at h ⊢
  split
  · rfl
  · rename_i i e
    rw [e] at h
    simp only at h
    split
    · rfl
    · rename_i h1
      rw [if_neg h1] at h
      split
      · rfl
      · rename_i h2
        rw [if_neg h2] at h
        split
        · rfl
        · rename_i h3; rw [if_neg h3] at h; exact absurd rfl h
theorem takeF_len (C : List Stm) (L : List Ntd) (tag : Int) (j : Jb) : (takeF C L tag j).2.length ≤ L.length + 1 := by
  unfold takeF; (repeat' split) <;> simp
theorem fateF_len (L : List Ntd) (tag k at1 : Int) : (fateF L tag k at1).2.length = L.length := by
  unfold fateF; (repeat' split) <;> simp
theorem takeF_good {C : List Stm} {L : List Ntd} (tag : Int) (j : Jb) (h : GoodL C L) : GoodL C (takeF C L tag j).2 := by
  unfold takeF
  split
  · exact h
  · split
    · exact h
    · rename_i hf
      split
      · exact h
      · rename_i hj
        intro x hx
        rcases List.mem_append.1 hx with hx | hx
        · exact h x hx
        · rw [List.mem_singleton.1 hx]
          simp only
          rcases findF_cases C j.1 with ⟨e, _⟩ | ⟨i, e, hi, hid⟩
          · rw [e] at hf; exact absurd (by decide) hf
          · have hm := getD_mem C i hi
            rw [e, Int.toNat_natCast] at hj
            refine ⟨⟨_, hm, hid⟩, ⟨by decide, by decide⟩, ?_⟩
            have h2 : (jobS (C.getD i default) j.2.1).2 = 0 := Decidable.byContradiction fun hc => hj (.inl hc)
            have h3 : (jobS (C.getD i default) j.2.1).1 = j := Decidable.byContradiction fun hc => hj (.inr hc)
            unfold jobS at h2 h3
            by_cases hr : rightS (C.getD i default) = 0
            · rw [if_pos hr] at h2 h3
              by_cases hb : 0 ≤ j.2.1 ∧ j.2.1 ≤ 1125899906842624
              · rw [if_pos hb] at h3
                have hz := (rightS_zero.1 hr).2.2.2.2
                rw [← h3]
                simp only
                omega
              · rw [if_neg hb] at h2; exact absurd h2 (by decide)
            · rw [if_neg hr] at h2; exact absurd h2 hr
theorem fateF_good {C : List Stm} {L : List Ntd} (tag k at1 : Int) (h : GoodL C L) : GoodL C (fateF L tag k at1).2 := by
  unfold fateF
  split
  · exact h
  · rename_i i e
    have hi := (tagIdx_lt e).1
    split
    · exact h
    · rename_i hk
      split
      · exact h
      · split
        · exact h
        · intro x hx
          rcases List.mem_or_eq_of_mem_set hx with hx | rfl
          · exact h x hx
          · have := h (L.getD i default) (by rw [getD_getN hi]; exact List.getElem_mem hi)
            simp only
            exact ⟨this.1, by omega, this.2.2⟩
theorem cnt_cons (p : Ntd → Bool) (x : Ntd) (L : List Ntd) : cntP p (x :: L) = (if p x then 1 else 0) + cntP p L := by
  unfold cntP; rw [List.map_cons, List.sum_cons]
/-- Whoever came has one of six fates. -/
theorem cnt_fates (p : Ntd → Bool) : ∀ (L : List Ntd), (∀ x ∈ L, 0 ≤ x.2.2.1 ∧ x.2.2.1 ≤ 5) →
    cntP (fateP p 0) L + cntP (fateP p 1) L + cntP (fateP p 2) L + cntP (fateP p 3) L + cntP (fateP p 4) L + cntP (fateP p 5) L = cntP p L
  | [], _ => rfl
  | x :: t, h => by
    have ih := cnt_fates p t (fun y hy => h y (List.mem_cons_of_mem _ hy))
    have hx := h x List.mem_cons_self
    simp only [cnt_cons]
    rw [← ih]
    have e : (if fateP p 0 x = true then (1 : Int) else 0) + (if fateP p 1 x = true then 1 else 0) + (if fateP p 2 x = true then 1 else 0) + (if fateP p 3 x = true then 1 else 0) + (if fateP p 4 x = true then 1 else 0) + (if fateP p 5 x = true then 1 else 0) = if p x = true then 1 else 0 := by
      have h6 : x.fate = 0 ∨ x.fate = 1 ∨ x.fate = 2 ∨ x.fate = 3 ∨ x.fate = 4 ∨ x.fate = 5 := by show x.2.2.1 = 0 ∨ x.2.2.1 = 1 ∨ x.2.2.1 = 2 ∨ x.2.2.1 = 3 ∨ x.2.2.1 = 4 ∨ x.2.2.1 = 5; omega
      unfold fateP
      cases p x
      · simp
      · rcases h6 with e | e | e | e | e | e <;> rw [e] <;> simp
    omega
def sumI (l : List Int) : Int := l.sum
theorem sum_map_add {α : Type} (f g : α → Int) : ∀ l : List α, (l.map fun a => f a + g a).sum = (l.map f).sum + (l.map g).sum
  | [] => rfl
  | a :: t => by simp only [List.map_cons, List.sum_cons, sum_map_add f g t]; omega
theorem sum_map_zero {α : Type} (f : α → Int) : ∀ l : List α, (∀ a ∈ l, f a = 0) → (l.map f).sum = 0
  | [], _ => rfl
  | a :: t, h => by
    rw [List.map_cons, List.sum_cons, h a List.mem_cons_self, sum_map_zero f t (fun b hb => h b (List.mem_cons_of_mem _ hb))]; rfl
theorem sum_one (C : List Stm) (id : Int) (c : Int) (hn : C.Pairwise fun a b => a.1 ≠ b.1) (hm : ∃ s ∈ C, s.1 = id) : (C.map fun s => if id = s.1 then c else 0).sum = c := by
  induction C with
  | nil => obtain ⟨s, hs, _⟩ := hm; cases hs
  | cons a t ih =>
    rw [List.pairwise_cons] at hn
    rw [List.map_cons, List.sum_cons]
    by_cases e : id = a.1
    · rw [if_pos e, sum_map_zero _ t (fun b hb => if_neg (fun e2 => hn.1 b hb (e.symm.trans e2)))]; omega
    · rw [if_neg e, ih hn.2 (by
        obtain ⟨s, hs, h⟩ := hm
        rcases List.mem_cons.1 hs with rfl | hs
        · exact absurd h.symm e
        · exact ⟨s, hs, h⟩)]; omega
/-- What the streams' rows count is what the whole counts. -/
theorem cnt_streams (C : List Stm) (P : Ntd → Bool) (hn : C.Pairwise fun a b => a.1 ≠ b.1) : ∀ (L : List Ntd), (∀ x ∈ L, ∃ s ∈ C, s.1 = x.2.1.1) → (C.map fun s => cntP (fun x => pId s.1 x && P x) L).sum = cntP P L
  | [], _ => sum_map_zero _ C (fun _ _ => rfl)
  | x :: t, h => by
    have ih := cnt_streams C P hn t (fun y hy => h y (List.mem_cons_of_mem _ hy))
    rw [cnt_cons, ← ih]
    have e : (fun s : Stm => cntP (fun y => pId s.1 y && P y) (x :: t)) = fun s => (if x.2.1.1 = s.1 then (if P x = true then (1 : Int) else 0) else 0) + cntP (fun y => pId s.1 y && P y) t := by
      funext s
      rw [cnt_cons]
      congr 1
      unfold pId
      by_cases e1 : x.2.1.1 = s.1 <;> simp [e1]
    rw [e, sum_map_add, sum_one C x.2.1.1 _ hn (h x List.mem_cons_self)]
/-- What the first streams' rows count. -/
def cntK (C : List Stm) (P : Ntd → Bool) (L : List Ntd) (k : Nat) : Int := ((C.take k).map fun s => cntP (fun x => pId s.1 x && P x) L).sum
theorem cntK_zero (C : List Stm) (P : Ntd → Bool) (L : List Ntd) : cntK C P L 0 = 0 := rfl
theorem cntK_succ (C : List Stm) (P : Ntd → Bool) (L : List Ntd) (k : Nat) (h : k < C.length) : cntK C P L (k + 1) = cntK C P L k + cntP (fun x => pId (C.getD k default).1 x && P x) L := by
  unfold cntK
  rw [take_one C k h, List.map_append, List.sum_append]; simp
theorem cntK_all (C : List Stm) (P : Ntd → Bool) (L : List Ntd) (hn : C.Pairwise fun a b => a.1 ≠ b.1) (hg : GoodL C L) : cntK C P L C.length = cntP P L := by
  unfold cntK
  rw [List.take_length]
  exact cnt_streams C P hn L (fun x hx => (hg x hx).1)
theorem cntK_in (C : List Stm) (P : Ntd → Bool) (L : List Ntd) : ∀ (k : Nat), k ≤ C.length → 0 ≤ cntK C P L k ∧ cntK C P L k ≤ k * L.length
  | 0, _ => by simp [cntK_zero]
  | k + 1, h => by
    have ih := cntK_in C P L k (by omega)
    have c := cnt_in (fun x => pId (C.getD k default).1 x && P x) L
    rw [cntK_succ C P L k (by omega)]
    have e : ((k + 1 : Nat) : Int) * (L.length : Int) = (k : Int) * (L.length : Int) + (L.length : Int) := by rw [Int.natCast_add, Int.add_mul]; simp
    rw [e]; omega
/-- The open ones are those of fate 0. -/
theorem opens_len : ∀ (L : List Ntd), ((opensL L).length : Int) = cntP (fateP pAll 0) L
  | [] => rfl
  | x :: t => by
    have ih := opens_len t
    rw [cnt_cons, ← ih]
    unfold opensL fateP pAll
    by_cases e : x.2.2.1 = 0
    · rw [List.filter_cons_of_pos (by simpa using e)]
      simp [Ntd.fate, e]; omega
    · rw [List.filter_cons_of_neg (by simpa using e)]
      simp [Ntd.fate, e]
theorem pId_fate (id f : Int) : fateP (pId id) f = fun x => pId id x && fateP pAll f x := by funext x; simp [fateP, pAll]
theorem pId_all (id : Int) : pId id = fun x => pId id x && pAll x := by funext x; simp [pAll]
theorem Rep.upd {T : Tab} {C : List Stm} {L : List Ntd} {m : Heap} (h : Rep T C L m) {p : Nat} (ho : ¬ T.own C p) (hv : bOf T.v ≠ some p) (y : ABlk) : Rep T C L (hupd m p y) :=
  h.keep (fun c hc => hupd_ne (fun e => ho (by rw [← e]; exact hc))) (fun c hc => hupd_ne (fun e => hv (by rw [← e]; exact hc)))
theorem act_lst (A : List Act) (i : Nat) (h : i < A.length) (x : Act) (hx : A.getD i default = x) : (A.map encA).getD i .undef = .agg (encAc x) := by
  rw [← hx]; simp [List.getD_eq_getElem?_getD, h, encA]
theorem srt_len (l : List Int) : (srtI l).length = l.length := by unfold srtI; exact (List.mergeSort_perm _ _).length_eq
end Go.Proofs.YtdckcophbmnjjaaDoor
namespace Go.Proofs.YtdckcophbmnjjaaDoor
open Go Go.Proofs.YtdckcophbmnjjaaDoor.Ab
open Go.Proofs (Tryd.prog)
set_option maxRecDepth 100000
/-- One block has turned, another lies as it did. -/
def Six (M6 : Heap) (p14 p16 : Nat) (cs row : List AVal) (m' : Heap) : Prop := m' p14 = some (.cells cs 6) ∧ m' p16 = some (.cells row 10) ∧ ∀ c, c ≠ p14 → m' c = M6 c
theorem rowK (S : List Stm) (L : List Ntd) (hg : GoodL S L) (j : Nat) (hj : j < S.length) (n : Nat) (hn : L.length ≤ n) (x : Stm) (hx : S.getD j default = x) :
    ∃ vk h0 h1 h2 h3 h4 h5 vo ve vs, rowOf (pId x.1) L = (vk, (h0, h1, h2, h3, h4, h5), vo, ve, vs) ∧ h0 + h1 + h2 + h3 + h4 + h5 = vk ∧ (0 ≤ vk ∧ vk ≤ n) ∧ (0 ≤ h0 ∧ 0 ≤ h1 ∧ 0 ≤ h2 ∧ 0 ≤ h3 ∧ 0 ≤ h4 ∧ 0 ≤ h5) ∧
      cntK S pAll L (j + 1) = cntK S pAll L j + vk ∧ cntK S (fateP pAll 0) L (j + 1) = cntK S (fateP pAll 0) L j + h0 ∧ cntK S (fateP pAll 1) L (j + 1) = cntK S (fateP pAll 1) L j + h1 ∧ cntK S (fateP pAll 2) L (j + 1) = cntK S (fateP pAll 2) L j + h2 ∧
      cntK S (fateP pAll 3) L (j + 1) = cntK S (fateP pAll 3) L j + h3 ∧ cntK S (fateP pAll 4) L (j + 1) = cntK S (fateP pAll 4) L j + h4 ∧ cntK S (fateP pAll 5) L (j + 1) = cntK S (fateP pAll 5) L j + h5 := by
  refine ⟨_, _, _, _, _, _, _, _, _, _, rfl, cnt_fates _ L (fun y hy => (hg y hy).2.1), ?_, ⟨(cnt_in _ L).1, (cnt_in _ L).1, (cnt_in _ L).1, (cnt_in _ L).1, (cnt_in _ L).1, (cnt_in _ L).1⟩, ?_, ?_, ?_, ?_, ?_, ?_, ?_⟩
  · have := cnt_in (pId x.1) L; exact ⟨this.1, by omega⟩
  all_goals first | (rw [cntK_succ S _ L j hj, hx, ← pId_all]) | (rw [cntK_succ S _ L j hj, hx, pId_fate])
set_option maxHeartbeats 8000000 in
theorem tallySums_spec (G : Nat → AVal) (hG : DivOK G) (C : List Stm) (hl : C.length < 9223372036854775808) (A : List Act) (hA : A.length < 9223372036854775808) (m : Heap) :
    CallWP Tryd.prog G 3 [.list 7 (C.map encS), .list 10 (A.map encA)] m fun v m' => v = .bool true ∧ m' = m := by
  have HL := Hid.mk (And.intro hG (And.intro hl hA))
  obtain ⟨n, hn⟩ : ∃ n, n = A.length := ⟨_, rfl⟩
  have ll : (A.map encA).length = n := by rw [List.length_map]; exact hn.symm
  have HN := Hid.mk hn
  clear hG hl hA hn
  refine callWP_body Tryd.func3 rfl (N := 139) rfl (rs := [.tmp 4]) rfl en_3 (of_decide_eq_true rfl) ?_
  repeat' (first | exact tf0 ‹_› | exact tf1 ‹_› | exact False.elim ‹_› | (with_reducible refine Al.intro ?_; intro pb hpb; (try simp only [hupd_none'] at hpb); (repeat rcases hpb with ⟨⟨hpx, hpy⟩, hpb⟩)) | with_reducible refine need ?_ | ((with_reducible first | refine frk0 ?_ ?_ | refine frk1 ?_ ?_ | refine frk2 ?_ ?_ | refine frk3 ?_ ?_ | refine frk4 ?_ ?_ | refine frk5 ?_ ?_ | refine frk6 ?_ ?_ | refine frk7 ?_ ?_ | refine frk8 ?_ ?_ | refine frk9 ?_ ?_) <;> intro h <;> try (exfalso; omega)) | with_reducible refine quiet_and ?_ ?_ | with_reducible refine awp_drawnA mixed (by decide +kernel) ?_ | ((fail_if_success with_reducible refine stp ?_); simp -implicitDefEqProofs only [go_sem, Nat.reduceEqDiff, Nat.reduceAdd, Nat.reduceLT, Nat.reduceMul, Nat.reduceSub, Nat.reduceLeDiff, ↓reduceIte, reduceCtorEq, ↓String.reduceEq, String.reduceNe, Int.reduceToNat, Int.reduceLT, Int.reduceLE, Int.reduceGT, Int.reduceGE, Int.reduceEq, Int.reduceNe, Int.reduceBEq, Int.reduceBNe, Int.reduceAdd, Int.reduceSub, Int.reduceMul, Int.reduceNeg,  *]))
  refine few_spec G C HL.out.2.1 m _ (fun v m1 hs hs1 hf => ?_)
  obtain ⟨S, hS⟩ : ∃ S, fewN C 6 = S := ⟨_, rfl⟩
  have hrC := few_rightC C 1 (by decide) (by decide)
  rw [hS] at hs hrC
  have hSl : S.length ≤ 6 := by rw [← hS, few_len]; omega
  have HS := Hid.mk (And.intro hs (And.intro hs1 (And.intro hSl hrC)))
  obtain ⟨LL, hLL⟩ : ∃ LL, LL = S.length := ⟨_, rfl⟩
  have HLL := Hid.mk hLL
  have hL6 : LL ≤ 6 := by omega
  clear hs hs1 hf hS hSl hrC hLL
  repeat' (first | exact tf0 ‹_› | exact tf1 ‹_› | exact False.elim ‹_› | (with_reducible refine Al.intro ?_; intro pb hpb; (try simp only [hupd_none'] at hpb); (repeat rcases hpb with ⟨⟨hpx, hpy⟩, hpb⟩)) | with_reducible refine need ?_ | ((with_reducible first | refine frk0 ?_ ?_ | refine frk1 ?_ ?_ | refine frk2 ?_ ?_ | refine frk3 ?_ ?_ | refine frk4 ?_ ?_ | refine frk5 ?_ ?_ | refine frk6 ?_ ?_ | refine frk7 ?_ ?_ | refine frk8 ?_ ?_ | refine frk9 ?_ ?_) <;> intro h <;> try (exfalso; omega)) | with_reducible refine quiet_and ?_ ?_ | with_reducible refine awp_drawnA mixed (by decide +kernel) ?_ | ((fail_if_success with_reducible refine stp ?_); simp -implicitDefEqProofs only [go_sem, Nat.reduceEqDiff, Nat.reduceAdd, Nat.reduceLT, Nat.reduceMul, Nat.reduceSub, Nat.reduceLeDiff, ↓reduceIte, reduceCtorEq, ↓String.reduceEq, String.reduceNe, Int.reduceToNat, Int.reduceLT, Int.reduceLE, Int.reduceGT, Int.reduceGE, Int.reduceEq, Int.reduceNe, Int.reduceBEq, Int.reduceBNe, Int.reduceAdd, Int.reduceSub, Int.reduceMul, Int.reduceNeg,  *]))
  refine new_spec G HL.out.1 S (by have := HS.out.2.2.1; omega) v m1 (.inl HS.out.1) _ (fun _ K hK => clone_spec G S (by have := HS.out.2.2.1; omega) v m1 HS.out.1 K hK) (fun e he hn => absurd HS.out.2.2.2 hn) (fun T M1 _ hR hsub hown hv => ?_)
  have HT := Hid.mk (And.intro hR (And.intro hsub (And.intro hown hv)))
  clear hR hsub hown hv
  repeat' (first | exact tf0 ‹_› | exact tf1 ‹_› | exact False.elim ‹_› | (with_reducible refine Al.intro ?_; intro pb hpb; (try simp only [hupd_none'] at hpb); (repeat rcases hpb with ⟨⟨hpx, hpy⟩, hpb⟩)) | with_reducible refine need ?_ | ((with_reducible first | refine frk0 ?_ ?_ | refine frk1 ?_ ?_ | refine frk2 ?_ ?_ | refine frk3 ?_ ?_ | refine frk4 ?_ ?_ | refine frk5 ?_ ?_ | refine frk6 ?_ ?_ | refine frk7 ?_ ?_ | refine frk8 ?_ ?_ | refine frk9 ?_ ?_) <;> intro h <;> try (exfalso; omega)) | with_reducible refine quiet_and ?_ ?_ | with_reducible refine awp_drawnA mixed (by decide +kernel) ?_ | ((fail_if_success with_reducible refine stp ?_); simp -implicitDefEqProofs only [go_sem, Nat.reduceEqDiff, Nat.reduceAdd, Nat.reduceLT, Nat.reduceMul, Nat.reduceSub, Nat.reduceLeDiff, ↓reduceIte, reduceCtorEq, ↓String.reduceEq, String.reduceNe, Int.reduceToNat, Int.reduceLT, Int.reduceLE, Int.reduceGT, Int.reduceGE, Int.reduceEq, Int.reduceNe, Int.reduceBEq, Int.reduceBNe, Int.reduceAdd, Int.reduceSub, Int.reduceMul, Int.reduceNeg,  *]))
  refine awp_loopP 0 (fun ts m' => Hid (Sub m1 m'))
    (fun k ts m' => ∃ (i : Nat) (L : List Ntd), Hid (k = 50 - i ∧ i ≤ 50 ∧ i ≤ n ∧ Rep T S L m' ∧ GoodL S L ∧ L.length ≤ i ∧ Sub m1 m') ∧ ts 1 = .list 10 (A.map encA) ∧ ts 5 = v ∧ ts 6 = .ptr T.tb 0 ∧ ts 8 = .int .i64 (i : Nat)) 50
    ⟨0, [], .mk ⟨rfl, by decide, Nat.zero_le _, HT.out.1, (fun x hx => by cases hx), Nat.le_refl _, HT.out.2.1⟩, ttt, ttt, ttt, ttt⟩ ?_ ?_
  · rintro k ts m2 ⟨i, L, H, t1, t5, t6, t8⟩
    by_cases hi : i < n
    · have lt : (i : Int) < (n : Int) := by omega
      by_cases h50 : i < 50
      · have lt2 : (i : Int) < 50 := by omega
        have hiA : i < A.length := by have := HN.out; omega
        obtain ⟨⟨ki, id, raw, ⟨j0, j1, j2, j3⟩, tag, fa, at1⟩, hx⟩ : ∃ x, A.getD i default = x := ⟨_, rfl⟩
        have g1 := act_lst A i hiA _ hx
        have wi : IntKind.i64.wrap ((i : Int) + 1) = ((i + 1 : Nat) : Int) := by rw [wrap_i64 (by omega) (by omega)]; omega
        clear hx hiA
        simp only [encAc] at g1
        repeat' (first | exact tf0 ‹_› | exact tf1 ‹_› | exact False.elim ‹_› | (with_reducible refine Al.intro ?_; intro pb hpb; (try simp only [hupd_none'] at hpb); (repeat rcases hpb with ⟨⟨hpx, hpy⟩, hpb⟩)) | with_reducible refine need ?_ | ((with_reducible first | refine frk0 ?_ ?_ | refine frk1 ?_ ?_ | refine frk2 ?_ ?_ | refine frk3 ?_ ?_ | refine frk4 ?_ ?_ | refine frk5 ?_ ?_ | refine frk6 ?_ ?_ | refine frk7 ?_ ?_ | refine frk8 ?_ ?_ | refine frk9 ?_ ?_) <;> intro h <;> try (exfalso; omega)) | with_reducible refine quiet_and ?_ ?_ | with_reducible refine awp_drawnA mixed (by decide +kernel) ?_ | ((fail_if_success with_reducible refine stp ?_); simp -implicitDefEqProofs only [go_sem, Nat.reduceEqDiff, Nat.reduceAdd, Nat.reduceLT, Nat.reduceMul, Nat.reduceSub, Nat.reduceLeDiff, ↓reduceIte, reduceCtorEq, ↓String.reduceEq, String.reduceNe, Int.reduceToNat, Int.reduceLT, Int.reduceLE, Int.reduceGT, Int.reduceGE, Int.reduceEq, Int.reduceNe, Int.reduceBEq, Int.reduceBNe, Int.reduceAdd, Int.reduceSub, Int.reduceMul, Int.reduceNeg,  *]))
        obtain ⟨p9, ep9⟩ : ∃ p, p = pb := ⟨_, rfl⟩
        subst ep9
        have n9 : ¬ T.own S p9 := fun h => H.out.2.2.2.1.owned h hpb
        obtain ⟨M2, hM2, k9, kr, ks⟩ : ∃ M2, M2 = hupd m2 p9 (.cells [.int .i64 ki, .int .i64 id, .bool raw, .int .i64 j0, .int .i64 j1, .int .i64 j2, .int .i64 j3, .int .i64 tag, .int .i64 fa, .int .i64 at1] 10) ∧ M2 p9 = some (.cells [.int .i64 ki, .int .i64 id, .bool raw, .int .i64 j0, .int .i64 j1, .int .i64 j2, .int .i64 j3, .int .i64 tag, .int .i64 fa, .int .i64 at1] 10) ∧ Rep T S L M2 ∧ Sub m1 M2 :=
          ⟨_, rfl, by rw [hupd_at, if_pos rfl], H.out.2.2.2.1.fresh hpb, H.out.2.2.2.2.2.2.fresh (H.out.2.2.2.2.2.2.gone hpb)⟩
        rw [← hM2]
        have HA := Hid.mk (And.intro kr (And.intro ks (And.intro n9 (And.intro H.out.1 (And.intro H.out.2.2.2.2.1 H.out.2.2.2.2.2.1)))))
        clear hM2 kr ks n9 hpb H
        refine CallWP.to (total_spec G T S L M2 HA.out.1) ?_
        obtain ⟨r, hr⟩ : ∃ r, rowOf pAll L = r := ⟨_, rfl⟩
        rw [hr]
        have HR := Hid.mk hr
        clear hr
        obtain ⟨tk, ⟨f0, f1, f2, f3, f4, f5⟩, wo, be, so⟩ := r
        have fr9 : ∀ c, M2 c = none → (p9 = c) = False := fun c h => by rw [eq_iff_iff, iff_false]; exact seenB k9 h
        by_cases hk : ki = 0
        case' pos =>
          have hk0 : (ki == 0) = true := by simpa using hk
          clear hk
          repeat' (first | exact tf0 ‹_› | exact tf1 ‹_› | exact False.elim ‹_› | (with_reducible refine Al.intro ?_; intro pb hpb; (try simp only [hupd_none'] at hpb); (repeat rcases hpb with ⟨⟨hpx, hpy⟩, hpb⟩)) | with_reducible refine need ?_ | ((with_reducible first | refine frk0 ?_ ?_ | refine frk1 ?_ ?_ | refine frk2 ?_ ?_ | refine frk3 ?_ ?_ | refine frk4 ?_ ?_ | refine frk5 ?_ ?_ | refine frk6 ?_ ?_ | refine frk7 ?_ ?_ | refine frk8 ?_ ?_ | refine frk9 ?_ ?_) <;> intro h <;> try (exfalso; omega)) | with_reducible refine quiet_and ?_ ?_ | with_reducible refine awp_drawnA mixed (by decide +kernel) ?_ | ((fail_if_success with_reducible refine stp ?_); simp -implicitDefEqProofs only [go_sem, Nat.reduceEqDiff, Nat.reduceAdd, Nat.reduceLT, Nat.reduceMul, Nat.reduceSub, Nat.reduceLeDiff, ↓reduceIte, reduceCtorEq, ↓String.reduceEq, String.reduceNe, Int.reduceToNat, Int.reduceLT, Int.reduceLE, Int.reduceGT, Int.reduceGE, Int.reduceEq, Int.reduceNe, Int.reduceBEq, Int.reduceBNe, Int.reduceAdd, Int.reduceSub, Int.reduceMul, Int.reduceNeg,  rowVal, *]))
          obtain ⟨p10, ep10⟩ : ∃ p, p = pb := ⟨_, rfl⟩
          subst ep10
          have n10 : ¬ T.own S p10 := fun h => HA.out.1.owned h hpb
          have n910 : p9 ≠ p10 := seenB k9 hpb
          obtain ⟨M3, hM3, k10, k9', kr, ks⟩ : ∃ M3, M3 = hupd M2 p10 (.cells [.int .i64 (-1), .int .i64 tk, .int .i64 f0, .int .i64 f1, .int .i64 f2, .int .i64 f3, .int .i64 f4, .int .i64 f5, .int .i64 wo, .int .i64 be] 10) ∧ M3 p10 = some (.cells [.int .i64 (-1), .int .i64 tk, .int .i64 f0, .int .i64 f1, .int .i64 f2, .int .i64 f3, .int .i64 f4, .int .i64 f5, .int .i64 wo, .int .i64 be] 10) ∧ M3 p9 = some (.cells [.int .i64 ki, .int .i64 id, .bool raw, .int .i64 j0, .int .i64 j1, .int .i64 j2, .int .i64 j3, .int .i64 tag, .int .i64 fa, .int .i64 at1] 10) ∧ Rep T S L M3 ∧ Sub m1 M3 :=
            ⟨_, rfl, by rw [hupd_at, if_pos rfl], by rw [hupd_ne n910]; exact k9, HA.out.1.fresh hpb, HA.out.2.1.fresh (HA.out.2.1.gone hpb)⟩
          rw [← hM3]
          have HB := Hid.mk (And.intro kr (And.intro ks (And.intro n10 HA.out.2.2)))
          clear hM3 kr ks n10 hpb HA k9 n910 fr9
          have k9 := k9'
          clear k9'
          obtain ⟨⟨q0, q1, q2, q3⟩, hq⟩ : ∃ q, jobA S (ki, id, raw, (j0, j1, j2, j3), tag, fa, at1) = q := ⟨_, rfl⟩
          have HJ : Hid (∀ m3, Sub m1 m3 → CallWP Tryd.prog G 9 [v, .agg [.int .i64 ki, .int .i64 id, .bool raw, .int .i64 j0, .int .i64 j1, .int .i64 j2, .int .i64 j3, .int .i64 tag, .int .i64 fa, .int .i64 at1]] m3 fun w m' => w = encJ (q0, q1, q2, q3) ∧ m' = m3) :=
            .mk (fun m3 h3 => by have := job_spec G S (by have := HS.out.2.2.1; omega) (ki, id, raw, (j0, j1, j2, j3), tag, fa, at1) v m3 (RdS.into (.inl HS.out.1) h3); rwa [hq] at this)
          clear hq
          refine awp_drawnE [(0, .q), (1, .q), (2, .q), (3, .q), (4, .q), (5, .q), (6, .k), (7, .e), (8, .q)] (fun k => match k with | 6 => encJ (q0, q1, q2, q3) | _ => .undef) (fun c => m1 c ≠ none) (fun _ _ => False) mixed (by decide +kernel) ?_
          repeat' (first | exact tf0 ‹_› | exact tf1 ‹_› | exact False.elim ‹_› | (with_reducible refine Al.intro ?_; intro pb hpb; (try simp only [hupd_none'] at hpb); (repeat rcases hpb with ⟨⟨hpx, hpy⟩, hpb⟩)) | with_reducible refine need ?_ | ((with_reducible first | refine frk0 ?_ ?_ | refine frk1 ?_ ?_ | refine frk2 ?_ ?_ | refine frk3 ?_ ?_ | refine frk4 ?_ ?_ | refine frk5 ?_ ?_ | refine frk6 ?_ ?_ | refine frk7 ?_ ?_ | refine frk8 ?_ ?_ | refine frk9 ?_ ?_) <;> intro h <;> try (exfalso; omega)) | with_reducible refine quiet_and ?_ ?_ | with_reducible refine awp_drawnA mixed (by decide +kernel) ?_ | ((fail_if_success with_reducible refine stp ?_); simp -implicitDefEqProofs only [go_sem, Nat.reduceEqDiff, Nat.reduceAdd, Nat.reduceLT, Nat.reduceMul, Nat.reduceSub, Nat.reduceLeDiff, ↓reduceIte, reduceCtorEq, ↓String.reduceEq, String.reduceNe, Int.reduceToNat, Int.reduceLT, Int.reduceLE, Int.reduceGT, Int.reduceGE, Int.reduceEq, Int.reduceNe, Int.reduceBEq, Int.reduceBNe, Int.reduceAdd, Int.reduceSub, Int.reduceMul, Int.reduceNeg,  encJ, encJc, *]))
          · exact fun m3 hst => HJ.out m3 (stab_sub2 HB.out.2.1 hst)
          refine take_spec G HL.out.1 T S L (by have := HS.out.2.2.1; omega) (by have := HB.out.2.2.2.2.2.2; have := HN.out; omega) tag (q0, q1, q2, q3) M3 HB.out.1 _ (fun M4 hR hE => ?_)
          have hF := takeF_err (C := S) (L := L) (tag := tag) (j := (q0, q1, q2, q3))
          have hG := takeF_good (C := S) (L := L) tag (q0, q1, q2, q3) HB.out.2.2.2.2.2.1
          have hle : (takeF S L tag (q0, q1, q2, q3)).2.length ≤ i + 1 := by have := takeF_len S L tag (q0, q1, q2, q3); have := HB.out.2.2.2.2.2.2; omega
          obtain ⟨⟨er, L2⟩, hy⟩ : ∃ y, takeF S L tag (q0, q1, q2, q3) = y := ⟨_, rfl⟩
          rw [hy] at hR hF hG hle
          rw [hy]
          clear hy HJ
          refine Need.intro (fun c hc => hE c (fun h0 => hc (HB.out.2.1.gone h0)) (fun ho => hc (HT.out.2.2.1 c ho))) ?_
          repeat' (first | exact tf0 ‹_› | exact tf1 ‹_› | exact False.elim ‹_› | (with_reducible refine Al.intro ?_; intro pb hpb; (try simp only [hupd_none'] at hpb); (repeat rcases hpb with ⟨⟨hpx, hpy⟩, hpb⟩)) | with_reducible refine need ?_ | ((with_reducible first | refine frk0 ?_ ?_ | refine frk1 ?_ ?_ | refine frk2 ?_ ?_ | refine frk3 ?_ ?_ | refine frk4 ?_ ?_ | refine frk5 ?_ ?_ | refine frk6 ?_ ?_ | refine frk7 ?_ ?_ | refine frk8 ?_ ?_ | refine frk9 ?_ ?_) <;> intro h <;> try (exfalso; omega)) | with_reducible refine quiet_and ?_ ?_ | with_reducible refine awp_drawnA mixed (by decide +kernel) ?_ | ((fail_if_success with_reducible refine stp ?_); simp -implicitDefEqProofs only [go_sem, Nat.reduceEqDiff, Nat.reduceAdd, Nat.reduceLT, Nat.reduceMul, Nat.reduceSub, Nat.reduceLeDiff, ↓reduceIte, reduceCtorEq, ↓String.reduceEq, String.reduceNe, Int.reduceToNat, Int.reduceLT, Int.reduceLE, Int.reduceGT, Int.reduceGE, Int.reduceEq, Int.reduceNe, Int.reduceBEq, Int.reduceBNe, Int.reduceAdd, Int.reduceSub, Int.reduceMul, Int.reduceNeg,  *]))
        case' neg =>
          have hk0 : (ki == 0) = false := by simpa using hk
          clear hk
          repeat' (first | exact tf0 ‹_› | exact tf1 ‹_› | exact False.elim ‹_› | (with_reducible refine Al.intro ?_; intro pb hpb; (try simp only [hupd_none'] at hpb); (repeat rcases hpb with ⟨⟨hpx, hpy⟩, hpb⟩)) | with_reducible refine need ?_ | ((with_reducible first | refine frk0 ?_ ?_ | refine frk1 ?_ ?_ | refine frk2 ?_ ?_ | refine frk3 ?_ ?_ | refine frk4 ?_ ?_ | refine frk5 ?_ ?_ | refine frk6 ?_ ?_ | refine frk7 ?_ ?_ | refine frk8 ?_ ?_ | refine frk9 ?_ ?_) <;> intro h <;> try (exfalso; omega)) | with_reducible refine quiet_and ?_ ?_ | with_reducible refine awp_drawnA mixed (by decide +kernel) ?_ | ((fail_if_success with_reducible refine stp ?_); simp -implicitDefEqProofs only [go_sem, Nat.reduceEqDiff, Nat.reduceAdd, Nat.reduceLT, Nat.reduceMul, Nat.reduceSub, Nat.reduceLeDiff, ↓reduceIte, reduceCtorEq, ↓String.reduceEq, String.reduceNe, Int.reduceToNat, Int.reduceLT, Int.reduceLE, Int.reduceGT, Int.reduceGE, Int.reduceEq, Int.reduceNe, Int.reduceBEq, Int.reduceBNe, Int.reduceAdd, Int.reduceSub, Int.reduceMul, Int.reduceNeg,  rowVal, *]))
          obtain ⟨p10, ep10⟩ : ∃ p, p = pb := ⟨_, rfl⟩
          subst ep10
          have n10 : ¬ T.own S p10 := fun h => HA.out.1.owned h hpb
          have n910 : p9 ≠ p10 := seenB k9 hpb
          obtain ⟨M3, hM3, k10, k9', kr, ks⟩ : ∃ M3, M3 = hupd M2 p10 (.cells [.int .i64 (-1), .int .i64 tk, .int .i64 f0, .int .i64 f1, .int .i64 f2, .int .i64 f3, .int .i64 f4, .int .i64 f5, .int .i64 wo, .int .i64 be] 10) ∧ M3 p10 = some (.cells [.int .i64 (-1), .int .i64 tk, .int .i64 f0, .int .i64 f1, .int .i64 f2, .int .i64 f3, .int .i64 f4, .int .i64 f5, .int .i64 wo, .int .i64 be] 10) ∧ M3 p9 = some (.cells [.int .i64 ki, .int .i64 id, .bool raw, .int .i64 j0, .int .i64 j1, .int .i64 j2, .int .i64 j3, .int .i64 tag, .int .i64 fa, .int .i64 at1] 10) ∧ Rep T S L M3 ∧ Sub m1 M3 :=
            ⟨_, rfl, by rw [hupd_at, if_pos rfl], by rw [hupd_ne n910]; exact k9, HA.out.1.fresh hpb, HA.out.2.1.fresh (HA.out.2.1.gone hpb)⟩
          rw [← hM3]
          have HB := Hid.mk (And.intro kr (And.intro ks (And.intro n10 HA.out.2.2)))
          clear hM3 kr ks n10 hpb HA k9 n910 fr9
          have k9 := k9'
          clear k9'
          refine fate_spec G T S L (by have := HB.out.2.2.2.2.2.2; omega) HB.out.2.2.2.2.2.1 tag fa at1 M3 HB.out.1 _ (fun M4 hR hE => ?_)
          have hF := fateF_err (L := L) (tag := tag) (k := fa) (at1 := at1)
          have hG := fateF_good (C := S) (L := L) tag fa at1 HB.out.2.2.2.2.2.1
          have hle : (fateF L tag fa at1).2.length ≤ i + 1 := by have := fateF_len L tag fa at1; have := HB.out.2.2.2.2.2.2; omega
          obtain ⟨⟨er, L2⟩, hy⟩ : ∃ y, fateF L tag fa at1 = y := ⟨_, rfl⟩
          rw [hy] at hR hF hG hle
          rw [hy]
          clear hy
        all_goals (
          have k10' := hE.at k10 HB.out.2.2.1
          have HC := Hid.mk (And.intro hR (And.intro (hE.sub HB.out.2.1 HT.out.2.2.1) (And.intro hG (And.intro hle (And.intro HB.out.2.2.1 HB.out.2.2.2.2.1)))))
          have HF := Hid.mk hF
          clear hR hE hF hG hle k10 k9 HB
          have k10 := k10'
          clear k10'
          refine CallWP.to (total_spec G T S L2 M4 HC.out.1) ?_
          obtain ⟨r2, hr2⟩ : ∃ r, rowOf pAll L2 = r := ⟨_, rfl⟩
          rw [hr2]
          obtain ⟨uk, ⟨g0, g1, g2, g3, g4, g5⟩, uo, ue, us⟩ := r2
          have HR2 := Hid.mk hr2
          clear hr2
          have fr10 : ∀ c, M4 c = none → (p10 = c) = False := fun c h => by rw [eq_iff_iff, iff_false]; exact seenB k10 h
          have fr10b : ∀ c, M4 c = none → (c = p10) = False := fun c h => by rw [eq_iff_iff, iff_false]; exact Ne.symm (seenB k10 h)
          by_cases he : er = 0
          case' pos =>
            have he0 : (er != 0) = false := by simpa using he
            clear he HF HR
          case' neg =>
            have he0 : (er != 0) = true := by simpa using he
            have hh := HR2.out.symm.trans ((congrArg (rowOf pAll) (HF.out he)).trans HR.out)
            clear he HF HR
            simp only [Prod.mk.injEq] at hh
            obtain ⟨rfl, ⟨rfl, rfl, rfl, rfl, rfl, rfl⟩, rfl, rfl, rfl⟩ := hh
          all_goals (
            repeat' (first | exact tf0 ‹_› | exact tf1 ‹_› | exact False.elim ‹_› | (with_reducible refine Al.intro ?_; intro pb hpb; (try simp only [hupd_none'] at hpb); (repeat rcases hpb with ⟨⟨hpx, hpy⟩, hpb⟩)) | with_reducible refine need ?_ | ((with_reducible first | refine frk0 ?_ ?_ | refine frk1 ?_ ?_ | refine frk2 ?_ ?_ | refine frk3 ?_ ?_ | refine frk4 ?_ ?_ | refine frk5 ?_ ?_ | refine frk6 ?_ ?_ | refine frk7 ?_ ?_ | refine frk8 ?_ ?_ | refine frk9 ?_ ?_) <;> intro h <;> try (exfalso; omega)) | with_reducible refine quiet_and ?_ ?_ | with_reducible refine awp_drawnA mixed (by decide +kernel) ?_ | ((fail_if_success with_reducible refine stp ?_); simp -implicitDefEqProofs only [go_sem, Nat.reduceEqDiff, Nat.reduceAdd, Nat.reduceLT, Nat.reduceMul, Nat.reduceSub, Nat.reduceLeDiff, ↓reduceIte, reduceCtorEq, ↓String.reduceEq, String.reduceNe, Int.reduceToNat, Int.reduceLT, Int.reduceLE, Int.reduceGT, Int.reduceGE, Int.reduceEq, Int.reduceNe, Int.reduceBEq, Int.reduceBNe, Int.reduceAdd, Int.reduceSub, Int.reduceMul, Int.reduceNeg,  rowVal, aeqEs, rcell, *]))
            rename_i p12 e12
            obtain ⟨p14, ep14⟩ : ∃ p, p = pb := ⟨_, rfl⟩
            subst ep14
            have hrep := HC.out.1
            have hsub := HC.out.2.1
            obtain ⟨M5, hM5, k12, k14, kr, ks⟩ : ∃ M5, M5 = hupd (hupd M4 p12 (.cells [.int .i64 (-1), .int .i64 uk, .int .i64 g0, .int .i64 g1, .int .i64 g2, .int .i64 g3, .int .i64 g4, .int .i64 g5, .int .i64 uo, .int .i64 ue] 10)) p14 (.cells [.int .i64 0, .int .i64 0, .int .i64 0, .int .i64 0, .int .i64 0, .int .i64 0] 6) ∧ M5 p12 = some (.cells [.int .i64 (-1), .int .i64 uk, .int .i64 g0, .int .i64 g1, .int .i64 g2, .int .i64 g3, .int .i64 g4, .int .i64 g5, .int .i64 uo, .int .i64 ue] 10) ∧ M5 p14 = some (.cells [.int .i64 0, .int .i64 0, .int .i64 0, .int .i64 0, .int .i64 0, .int .i64 0] 6) ∧ Rep T S L2 M5 ∧ Sub m1 M5 :=
              ⟨_, rfl, by rw [hupd_ne hpy, hupd_at, if_pos rfl], by rw [hupd_at, if_pos rfl], (hrep.fresh e12).fresh (by rw [hupd_ne hpx]; exact hpb), (hsub.fresh (hsub.gone e12)).fresh (hsub.gone hpb)⟩
            rw [← hM5]
            have n14 : ¬ T.own S p14 := fun h => hrep.owned h hpb
            have v14 : bOf T.v ≠ some p14 := fun h => (slm_some hrep.str h) hpb
            have m14 : m1 p14 = none := hsub.gone hpb
            have HD := Hid.mk (And.intro n14 (And.intro v14 (And.intro m14 (And.intro HC.out.2.2.1 (And.intro HC.out.2.2.2.1 HC.out.2.2.2.2.2)))))
            have hcl : Hid ((cntK S pAll L2 LL = uk ∧ cntK S (fateP pAll 0) L2 LL = g0 ∧ cntK S (fateP pAll 1) L2 LL = g1 ∧ cntK S (fateP pAll 2) L2 LL = g2 ∧ cntK S (fateP pAll 3) L2 LL = g3 ∧ cntK S (fateP pAll 4) L2 LL = g4 ∧ cntK S (fateP pAll 5) L2 LL = g5) ∧ ((srtI (opensL L2)).length : Int) = g0) := .mk (by
              have hg := HC.out.2.2.1
              have hp := ((rightC_iff S 1).1 HS.out.2.2.2).2.2.2.1
              have hall := fun P => cntK_all S P L2 hp hg
              rw [← HLL.out] at hall
              have hh := HR2.out
              unfold rowOf at hh
              simp only [Prod.mk.injEq] at hh
              obtain ⟨q0, ⟨q1, q2, q3, q4, q5, q6⟩, -⟩ := hh
              rw [srt_len, opens_len]
              exact ⟨⟨(hall _).trans q0, (hall _).trans q1, (hall _).trans q2, (hall _).trans q3, (hall _).trans q4, (hall _).trans q5, (hall _).trans q6⟩, q1⟩)
            have HM := Hid.mk (And.intro kr ks)
            clear hM5 kr ks hrep hsub n14 v14 m14 hpx hpy hpb e12 fr10 fr10b k10 HC HR2
            refine awp_loopP 2 (fun ts m' => Hid (Rep T S L2 m' ∧ Sub m1 m') ∧ m' p12 = some (.cells [.int .i64 (-1), .int .i64 uk, .int .i64 g0, .int .i64 g1, .int .i64 g2, .int .i64 g3, .int .i64 g4, .int .i64 g5, .int .i64 uo, .int .i64 ue] 10) ∧ m' p14 = some (.cells [.int .i64 g0, .int .i64 g1, .int .i64 g2, .int .i64 g3, .int .i64 g4, .int .i64 g5] 6) ∧ ts 1 = .list 10 (A.map encA) ∧ ts 5 = v ∧ ts 6 = .ptr T.tb 0 ∧ ts 8 = .int .i64 (i : Nat) ∧ ts 12 = .ptr p12 0 ∧ ts 13 = .int .i64 uk ∧ ts 14 = .ptr p14 0)
              (fun k2 ts m' => ∃ (j : Nat) (c e0 e1 e2 e3 e4 e5 : Int), Hid (k2 = LL - j ∧ j ≤ LL ∧ (cntK S pAll L2 j = c ∧ cntK S (fateP pAll 0) L2 j = e0 ∧ cntK S (fateP pAll 1) L2 j = e1 ∧ cntK S (fateP pAll 2) L2 j = e2 ∧ cntK S (fateP pAll 3) L2 j = e3 ∧ cntK S (fateP pAll 4) L2 j = e4 ∧ cntK S (fateP pAll 5) L2 j = e5) ∧ Rep T S L2 m' ∧ Sub m1 m') ∧
                m' p12 = some (.cells [.int .i64 (-1), .int .i64 uk, .int .i64 g0, .int .i64 g1, .int .i64 g2, .int .i64 g3, .int .i64 g4, .int .i64 g5, .int .i64 uo, .int .i64 ue] 10) ∧ m' p14 = some (.cells [.int .i64 e0, .int .i64 e1, .int .i64 e2, .int .i64 e3, .int .i64 e4, .int .i64 e5] 6) ∧
                ts 1 = .list 10 (A.map encA) ∧ ts 5 = v ∧ ts 6 = .ptr T.tb 0 ∧ ts 8 = .int .i64 (i : Nat) ∧ ts 12 = .ptr p12 0 ∧ ts 13 = .int .i64 c ∧ ts 14 = .ptr p14 0 ∧ ts 15 = .int .i64 (j : Nat)) LL
              ⟨0, 0, 0, 0, 0, 0, 0, 0, .mk ⟨rfl, Nat.zero_le _, ⟨rfl, rfl, rfl, rfl, rfl, rfl, rfl⟩, HM.out.1, HM.out.2⟩, k12, k14, (by first | (simp only [upd, put, Nat.reduceEqDiff, ↓reduceIte, t1]; done) | (simp [upd, put, t1]; done) | rfl | (simp [upd, put, t1]; rfl)), (by first | (simp only [upd, put, Nat.reduceEqDiff, ↓reduceIte, t5]; done) | (simp [upd, put, t5]; done) | rfl | (simp [upd, put, t5]; rfl)), (by first | (simp only [upd, put, Nat.reduceEqDiff, ↓reduceIte, t6]; done) | (simp [upd, put, t6]; done) | rfl | (simp [upd, put, t6]; rfl)), (by first | (simp only [upd, put, Nat.reduceEqDiff, ↓reduceIte, t8]; done) | (simp [upd, put, t8]; done) | rfl | (simp [upd, put, t8]; rfl)), ttt, ttt, ttt, ttt⟩ ?_ ?_
            · rintro k2 ts m5 ⟨j, c, e0, e1, e2, e3, e4, e5, H5, k12, k14, t1, t5, t6, t8, t12, t13, t14, t15⟩
              obtain ⟨b, pre, post, N, cap, hw⟩ : ∃ b pre post N cap, (v = .nils ∧ LL = 0) ∨ (v = .slice b (pre : List AVal).length LL cap ∧ m1 b = some (.cells (pre ++ (S.flatMap encSc ++ post)) N)) := by
                rcases HS.out.1 with ⟨h1, h2⟩ | ⟨b, blk, hb, pre, post, N, cap, h1, h2, _⟩
                · exact ⟨0, [], [], 0, 0, .inl ⟨h1, by rw [HLL.out, h2]; rfl⟩⟩
                · exact ⟨b, pre, post, N, cap, .inr ⟨by rw [HLL.out]; exact h1, by rw [hb, h2]⟩⟩
              by_cases hj : j < LL
              · have ltj : (j : Int) < (LL : Int) := by omega
                rcases hw with ⟨hv, hz⟩ | ⟨hv, hb⟩
                · omega
                subst hv
                have hjS : j < S.length := by have := HLL.out; omega
                obtain ⟨x, hx⟩ : ∃ x, S.getD j default = x := ⟨_, rfl⟩
                have hxm := getD_mem S j hjS
                rw [hx] at hxm
                have a0 := sm_at S pre post j hjS x hx
                have a1 := sm_cell S pre post j hjS x hx 0 (by decide)
                rw [show (encSc x).getD 0 .undef = .int .i64 x.1 from rfl, Nat.add_zero] at a1
                have l1 := sm_len S pre post j hjS
                have hb2 := H5.out.2.2.2.2 _ _ hb
                obtain ⟨vk, h0, h1, h2, h3, h4, h5, vo, ve, vs, hr3, hsum, hvk, hge, y1, y2, y3, y4, y5, y6, y7⟩ := rowK S L2 HD.out.2.2.2.1 j hjS 50 (by have hz2 : L2.length ≤ i + 1 := HD.out.2.2.2.2.1; omega) x hx
                have hbd := fun P => cntK_in S P L2 j (by omega)
                have hjl : (j : Int) * (L2.length : Int) ≤ 300 := by
                  have q1 : (L2.length : Int) ≤ 50 := by have hz2 : L2.length ≤ i + 1 := HD.out.2.2.2.2.1; omega
                  have q2 : (j : Int) * (L2.length : Int) ≤ (j : Int) * 50 := Int.mul_le_mul_of_nonneg_left q1 (by omega)
                  omega
                obtain ⟨z0, z1, z2, z3, z4, z5, z6⟩ := H5.out.2.2.1
                have b0 := hbd pAll
                have b1 := hbd (fateP pAll 0)
                have b2 := hbd (fateP pAll 1)
                have b3 := hbd (fateP pAll 2)
                have b4 := hbd (fateP pAll 3)
                have b5 := hbd (fateP pAll 4)
                have b6 := hbd (fateP pAll 5)
                rw [z0] at b0 y1; rw [z1] at b1 y2; rw [z2] at b2 y3; rw [z3] at b3 y4; rw [z4] at b4 y5; rw [z5] at b5 y6; rw [z6] at b6 y7
                obtain ⟨d0, hd0⟩ : ∃ d, d = e0 + h0 := ⟨_, rfl⟩
                obtain ⟨d1, hd1⟩ : ∃ d, d = e1 + h1 := ⟨_, rfl⟩
                obtain ⟨d2, hd2⟩ : ∃ d, d = e2 + h2 := ⟨_, rfl⟩
                obtain ⟨d3, hd3⟩ : ∃ d, d = e3 + h3 := ⟨_, rfl⟩
                obtain ⟨d4, hd4⟩ : ∃ d, d = e4 + h4 := ⟨_, rfl⟩
                obtain ⟨d5, hd5⟩ : ∃ d, d = e5 + h5 := ⟨_, rfl⟩
                obtain ⟨c2, hc2⟩ : ∃ d, d = c + vk := ⟨_, rfl⟩
                obtain ⟨s2, hs2⟩ : ∃ d, d = h0 + h1 := ⟨_, rfl⟩
                obtain ⟨s3, hs3⟩ : ∃ d, d = s2 + h2 := ⟨_, rfl⟩
                obtain ⟨s4, hs4⟩ : ∃ d, d = s3 + h3 := ⟨_, rfl⟩
                obtain ⟨s5, hs5⟩ : ∃ d, d = s4 + h4 := ⟨_, rfl⟩
                have wd0 : IntKind.i64.wrap (e0 + h0) = d0 := by rw [← hd0]; exact wrap_i64 (by omega) (by omega)
                have wd1 : IntKind.i64.wrap (e1 + h1) = d1 := by rw [← hd1]; exact wrap_i64 (by omega) (by omega)
                have wd2 : IntKind.i64.wrap (e2 + h2) = d2 := by rw [← hd2]; exact wrap_i64 (by omega) (by omega)
                have wd3 : IntKind.i64.wrap (e3 + h3) = d3 := by rw [← hd3]; exact wrap_i64 (by omega) (by omega)
                have wd4 : IntKind.i64.wrap (e4 + h4) = d4 := by rw [← hd4]; exact wrap_i64 (by omega) (by omega)
                have wd5 : IntKind.i64.wrap (e5 + h5) = d5 := by rw [← hd5]; exact wrap_i64 (by omega) (by omega)
                have ws0 : IntKind.i64.wrap h0 = h0 := wrap_i64 (by omega) (by omega)
                have ws0b : IntKind.i64.wrap (0 + h0) = h0 := by rw [Int.zero_add]; exact ws0
                have ws1 : IntKind.i64.wrap (h0 + h1) = s2 := by rw [← hs2]; exact wrap_i64 (by omega) (by omega)
                have ws2 : IntKind.i64.wrap (s2 + h2) = s3 := by rw [← hs3]; exact wrap_i64 (by omega) (by omega)
                have ws3 : IntKind.i64.wrap (s3 + h3) = s4 := by rw [← hs4]; exact wrap_i64 (by omega) (by omega)
                have ws4 : IntKind.i64.wrap (s4 + h4) = s5 := by rw [← hs5]; exact wrap_i64 (by omega) (by omega)
                have ws5 : IntKind.i64.wrap (s5 + h5) = vk := by rw [show s5 + h5 = vk by omega]; exact wrap_i64 (by omega) (by omega)
                have wc : IntKind.i64.wrap (c + vk) = c2 := by rw [← hc2]; exact wrap_i64 (by omega) (by omega)
                have wj : IntKind.i64.wrap ((j : Int) + 1) = ((j + 1 : Nat) : Int) := by rw [wrap_i64 (by omega) (by omega)]; omega
                have wt : (IntKind.i64.wrap 1 = 1 ∧ IntKind.i64.wrap 2 = 2 ∧ IntKind.i64.wrap 3 = 3) ∧ IntKind.i64.wrap 4 = 4 ∧ IntKind.i64.wrap 5 = 5 ∧ IntKind.i64.wrap 6 = 6 := by decide
                have HY := Hid.mk (And.intro (y1.trans hc2.symm) (And.intro (y2.trans hd0.symm) (And.intro (y3.trans hd1.symm) (And.intro (y4.trans hd2.symm) (And.intro (y5.trans hd3.symm) (And.intro (y6.trans hd4.symm) (y7.trans hd5.symm)))))))
                have HXM := Hid.mk (And.intro hxm hr3)
                have h16 : Hid (p12 ≠ p14) := .mk (fun e => by rw [e, k14] at k12; simp at k12)
                have frb : ∀ c, m5 c = none → (b = c) = False := fun c h => by rw [eq_iff_iff, iff_false]; exact seenB hb2 h
                have frc : ∀ c, m5 c = none → (p12 = c) = False := fun c h => by rw [eq_iff_iff, iff_false]; exact seenB k12 h
                have frd : ∀ c, m5 c = none → (p14 = c) = False := fun c h => by rw [eq_iff_iff, iff_false]; exact seenB k14 h
                clear hx hjS hxm hr3 hsum hvk hge y1 y2 y3 y4 y5 y6 y7 hbd hjl z0 z1 z2 z3 z4 z5 z6 b0 b1 b2 b3 b4 b5 b6 hd0 hd1 hd2 hd3 hd4 hd5 hc2 hs2 hs3 hs4 hs5 hb
                repeat' (first | exact tf0 ‹_› | exact tf1 ‹_› | exact False.elim ‹_› | (with_reducible refine Al.intro ?_; intro pb hpb; (try simp only [hupd_none'] at hpb); (repeat rcases hpb with ⟨⟨hpx, hpy⟩, hpb⟩)) | with_reducible refine need ?_ | ((with_reducible first | refine frk0 ?_ ?_ | refine frk1 ?_ ?_ | refine frk2 ?_ ?_ | refine frk3 ?_ ?_ | refine frk4 ?_ ?_ | refine frk5 ?_ ?_ | refine frk6 ?_ ?_ | refine frk7 ?_ ?_ | refine frk8 ?_ ?_ | refine frk9 ?_ ?_) <;> intro h <;> try (exfalso; omega)) | with_reducible refine quiet_and ?_ ?_ | with_reducible refine awp_drawnA mixed (by decide +kernel) ?_ | ((fail_if_success with_reducible refine stp ?_); simp -implicitDefEqProofs only [go_sem, Nat.reduceEqDiff, Nat.reduceAdd, Nat.reduceLT, Nat.reduceMul, Nat.reduceSub, Nat.reduceLeDiff, ↓reduceIte, reduceCtorEq, ↓String.reduceEq, String.reduceNe, Int.reduceToNat, Int.reduceLT, Int.reduceLE, Int.reduceGT, Int.reduceGE, Int.reduceEq, Int.reduceNe, Int.reduceBEq, Int.reduceBNe, Int.reduceAdd, Int.reduceSub, Int.reduceMul, Int.reduceNeg,  *]))
                refine CallWP.to (trow_spec G T S L2 x.1 ⟨x, HXM.out.1, rfl⟩ m5 H5.out.2.2.2.1) ?_
                rw [HXM.out.2]
                repeat' (first | exact tf0 ‹_› | exact tf1 ‹_› | exact False.elim ‹_› | (with_reducible refine Al.intro ?_; intro pb hpb; (try simp only [hupd_none'] at hpb); (repeat rcases hpb with ⟨⟨hpx, hpy⟩, hpb⟩)) | with_reducible refine need ?_ | ((with_reducible first | refine frk0 ?_ ?_ | refine frk1 ?_ ?_ | refine frk2 ?_ ?_ | refine frk3 ?_ ?_ | refine frk4 ?_ ?_ | refine frk5 ?_ ?_ | refine frk6 ?_ ?_ | refine frk7 ?_ ?_ | refine frk8 ?_ ?_ | refine frk9 ?_ ?_) <;> intro h <;> try (exfalso; omega)) | with_reducible refine quiet_and ?_ ?_ | with_reducible refine awp_drawnA mixed (by decide +kernel) ?_ | ((fail_if_success with_reducible refine stp ?_); simp -implicitDefEqProofs only [go_sem, Nat.reduceEqDiff, Nat.reduceAdd, Nat.reduceLT, Nat.reduceMul, Nat.reduceSub, Nat.reduceLeDiff, ↓reduceIte, reduceCtorEq, ↓String.reduceEq, String.reduceNe, Int.reduceToNat, Int.reduceLT, Int.reduceLE, Int.reduceGT, Int.reduceGE, Int.reduceEq, Int.reduceNe, Int.reduceBEq, Int.reduceBNe, Int.reduceAdd, Int.reduceSub, Int.reduceMul, Int.reduceNeg,  rowVal, *]))
                obtain ⟨p16, ep16⟩ : ∃ p, p = pb := ⟨_, rfl⟩
                subst ep16
                have n16 : p14 ≠ p16 := seenB k14 hpb
                have n12 : p12 ≠ p16 := seenB k12 hpb
                obtain ⟨M6, hM6, k16, k12', k14', kr, ks⟩ : ∃ M6, M6 = hupd m5 p16 (.cells [.int .i64 x.1, .int .i64 vk, .int .i64 h0, .int .i64 h1, .int .i64 h2, .int .i64 h3, .int .i64 h4, .int .i64 h5, .int .i64 vo, .int .i64 ve] 10) ∧ M6 p16 = some (.cells [.int .i64 x.1, .int .i64 vk, .int .i64 h0, .int .i64 h1, .int .i64 h2, .int .i64 h3, .int .i64 h4, .int .i64 h5, .int .i64 vo, .int .i64 ve] 10) ∧ M6 p12 = m5 p12 ∧ M6 p14 = m5 p14 ∧ Rep T S L2 M6 ∧ Sub m1 M6 :=
                  ⟨_, rfl, by rw [hupd_at, if_pos rfl], hupd_ne n12, hupd_ne n16, H5.out.2.2.2.1.fresh hpb, H5.out.2.2.2.2.fresh (H5.out.2.2.2.2.gone hpb)⟩
                rw [← hM6]
                rw [k12] at k12'; rw [k14] at k14'
                have HE := Hid.mk (And.intro kr (And.intro ks (And.intro k12' (And.intro (Ne.symm n16) H5.out.2.1))))
                have S0 := Hid.mk (show Six M6 p14 p16 [.int .i64 e0, .int .i64 e1, .int .i64 e2, .int .i64 e3, .int .i64 e4, .int .i64 e5] [.int .i64 x.1, .int .i64 vk, .int .i64 h0, .int .i64 h1, .int .i64 h2, .int .i64 h3, .int .i64 h4, .int .i64 h5, .int .i64 vo, .int .i64 ve] M6 from ⟨k14', k16, fun _ _ => rfl⟩)
                have d65 : Hid (k2 = LL - j) := .mk H5.out.1
                clear hM6 kr ks n12 n16 hpb k12 k14 k16 k12' k14' H5 frb frc frd HXM a0 a1 l1 hb2
                refine awp_loopP 4 (fun ts m' => Six M6 p14 p16 [.int .i64 d0, .int .i64 d1, .int .i64 d2, .int .i64 d3, .int .i64 d4, .int .i64 d5] [.int .i64 x.1, .int .i64 vk, .int .i64 h0, .int .i64 h1, .int .i64 h2, .int .i64 h3, .int .i64 h4, .int .i64 h5, .int .i64 vo, .int .i64 ve] m' ∧ ts 18 = .int .i64 vk ∧ ts 1 = .list 10 (A.map encA) ∧ ts 5 = .slice b pre.length LL cap ∧ ts 6 = .ptr T.tb 0 ∧ ts 8 = .int .i64 (i : Nat) ∧ ts 12 = .ptr p12 0 ∧ ts 13 = .int .i64 c ∧ ts 14 = .ptr p14 0 ∧ ts 15 = .int .i64 (j : Nat) ∧ ts 16 = .ptr p16 0 ∧ ts 17 = .bool true)
                  (fun k4 ts m' => (ts 1 = .list 10 (A.map encA) ∧ ts 5 = .slice b pre.length LL cap ∧ ts 6 = .ptr T.tb 0 ∧ ts 8 = .int .i64 (i : Nat) ∧ ts 12 = .ptr p12 0 ∧ ts 13 = .int .i64 c ∧ ts 14 = .ptr p14 0 ∧ ts 15 = .int .i64 (j : Nat) ∧ ts 16 = .ptr p16 0 ∧ ts 17 = .bool true) ∧ ((k4 = 6 ∧ Six M6 p14 p16 [.int .i64 e0, .int .i64 e1, .int .i64 e2, .int .i64 e3, .int .i64 e4, .int .i64 e5] [.int .i64 x.1, .int .i64 vk, .int .i64 h0, .int .i64 h1, .int .i64 h2, .int .i64 h3, .int .i64 h4, .int .i64 h5, .int .i64 vo, .int .i64 ve] m' ∧ ts 18 = .int .i64 0 ∧ ts 19 = .int .i64 0) ∨ (k4 = 5 ∧ Six M6 p14 p16 [.int .i64 d0, .int .i64 e1, .int .i64 e2, .int .i64 e3, .int .i64 e4, .int .i64 e5] [.int .i64 x.1, .int .i64 vk, .int .i64 h0, .int .i64 h1, .int .i64 h2, .int .i64 h3, .int .i64 h4, .int .i64 h5, .int .i64 vo, .int .i64 ve] m' ∧ ts 18 = .int .i64 h0 ∧ ts 19 = .int .i64 1) ∨ (k4 = 4 ∧ Six M6 p14 p16 [.int .i64 d0, .int .i64 d1, .int .i64 e2, .int .i64 e3, .int .i64 e4, .int .i64 e5] [.int .i64 x.1, .int .i64 vk, .int .i64 h0, .int .i64 h1, .int .i64 h2, .int .i64 h3, .int .i64 h4, .int .i64 h5, .int .i64 vo, .int .i64 ve] m' ∧ ts 18 = .int .i64 s2 ∧ ts 19 = .int .i64 2) ∨ (k4 = 3 ∧ Six M6 p14 p16 [.int .i64 d0, .int .i64 d1, .int .i64 d2, .int .i64 e3, .int .i64 e4, .int .i64 e5] [.int .i64 x.1, .int .i64 vk, .int .i64 h0, .int .i64 h1, .int .i64 h2, .int .i64 h3, .int .i64 h4, .int .i64 h5, .int .i64 vo, .int .i64 ve] m' ∧ ts 18 = .int .i64 s3 ∧ ts 19 = .int .i64 3) ∨ (k4 = 2 ∧ Six M6 p14 p16 [.int .i64 d0, .int .i64 d1, .int .i64 d2, .int .i64 d3, .int .i64 e4, .int .i64 e5] [.int .i64 x.1, .int .i64 vk, .int .i64 h0, .int .i64 h1, .int .i64 h2, .int .i64 h3, .int .i64 h4, .int .i64 h5, .int .i64 vo, .int .i64 ve] m' ∧ ts 18 = .int .i64 s4 ∧ ts 19 = .int .i64 4) ∨ (k4 = 1 ∧ Six M6 p14 p16 [.int .i64 d0, .int .i64 d1, .int .i64 d2, .int .i64 d3, .int .i64 d4, .int .i64 e5] [.int .i64 x.1, .int .i64 vk, .int .i64 h0, .int .i64 h1, .int .i64 h2, .int .i64 h3, .int .i64 h4, .int .i64 h5, .int .i64 vo, .int .i64 ve] m' ∧ ts 18 = .int .i64 s5 ∧ ts 19 = .int .i64 5) ∨ (k4 = 0 ∧ Six M6 p14 p16 [.int .i64 d0, .int .i64 d1, .int .i64 d2, .int .i64 d3, .int .i64 d4, .int .i64 d5] [.int .i64 x.1, .int .i64 vk, .int .i64 h0, .int .i64 h1, .int .i64 h2, .int .i64 h3, .int .i64 h4, .int .i64 h5, .int .i64 vo, .int .i64 ve] m' ∧ ts 18 = .int .i64 vk ∧ ts 19 = .int .i64 6))) 6
                  ⟨⟨(by first | (simp only [upd, put, Nat.reduceEqDiff, ↓reduceIte, t1]; done) | (simp [upd, put, t1]; done) | rfl | (simp [upd, put, t1]; rfl)), (by first | (simp only [upd, put, Nat.reduceEqDiff, ↓reduceIte, t5]; done) | (simp [upd, put, t5]; done) | rfl | (simp [upd, put, t5]; rfl)), (by first | (simp only [upd, put, Nat.reduceEqDiff, ↓reduceIte, t6]; done) | (simp [upd, put, t6]; done) | rfl | (simp [upd, put, t6]; rfl)), (by first | (simp only [upd, put, Nat.reduceEqDiff, ↓reduceIte, t8]; done) | (simp [upd, put, t8]; done) | rfl | (simp [upd, put, t8]; rfl)), (by first | (simp only [upd, put, Nat.reduceEqDiff, ↓reduceIte, t12]; done) | (simp [upd, put, t12]; done) | rfl | (simp [upd, put, t12]; rfl)), (by first | (simp only [upd, put, Nat.reduceEqDiff, ↓reduceIte, t13]; done) | (simp [upd, put, t13]; done) | rfl | (simp [upd, put, t13]; rfl)), (by first | (simp only [upd, put, Nat.reduceEqDiff, ↓reduceIte, t14]; done) | (simp [upd, put, t14]; done) | rfl | (simp [upd, put, t14]; rfl)), (by first | (simp only [upd, put, Nat.reduceEqDiff, ↓reduceIte, t15]; done) | (simp [upd, put, t15]; done) | rfl | (simp [upd, put, t15]; rfl)), ttt, ttt⟩, .inl ⟨rfl, S0.out, ttt, ttt⟩⟩ ?_ ?_
                · rintro k4 ts m6 ⟨⟨t1, t5, t6, t8, t12, t13, t14, t15, t16, t17⟩, ⟨rfl, hS6, t18, t19⟩ | ⟨rfl, hS6, t18, t19⟩ | ⟨rfl, hS6, t18, t19⟩ | ⟨rfl, hS6, t18, t19⟩ | ⟨rfl, hS6, t18, t19⟩ | ⟨rfl, hS6, t18, t19⟩ | ⟨rfl, hS6, t18, t19⟩⟩
                  · have ka := hS6.1
                    have kb := hS6.2.1
                    have HS6 := Hid.mk hS6.2.2
                    clear hS6
                    repeat' (first | exact tf0 ‹_› | exact tf1 ‹_› | exact False.elim ‹_› | (with_reducible refine Al.intro ?_; intro pb hpb; (try simp only [hupd_none'] at hpb); (repeat rcases hpb with ⟨⟨hpx, hpy⟩, hpb⟩)) | with_reducible refine need ?_ | ((with_reducible first | refine frk0 ?_ ?_ | refine frk1 ?_ ?_ | refine frk2 ?_ ?_ | refine frk3 ?_ ?_ | refine frk4 ?_ ?_ | refine frk5 ?_ ?_ | refine frk6 ?_ ?_ | refine frk7 ?_ ?_ | refine frk8 ?_ ?_ | refine frk9 ?_ ?_) <;> intro h <;> try (exfalso; omega)) | with_reducible refine quiet_and ?_ ?_ | with_reducible refine awp_drawnA mixed (by decide +kernel) ?_ | ((fail_if_success with_reducible refine stp ?_); simp -implicitDefEqProofs only [go_sem, Nat.reduceEqDiff, Nat.reduceAdd, Nat.reduceLT, Nat.reduceMul, Nat.reduceSub, Nat.reduceLeDiff, ↓reduceIte, reduceCtorEq, ↓String.reduceEq, String.reduceNe, Int.reduceToNat, Int.reduceLT, Int.reduceLE, Int.reduceGT, Int.reduceGE, Int.reduceEq, Int.reduceNe, Int.reduceBEq, Int.reduceBNe, Int.reduceAdd, Int.reduceSub, Int.reduceMul, Int.reduceNeg,  *]))
                    exact Again.intro ⟨5, by decide, _, Sub.refl _, ⟨(by first | (simp only [upd, put, Nat.reduceEqDiff, ↓reduceIte, t1]; done) | (simp [upd, put, t1]; done) | rfl | (simp [upd, put, t1]; rfl)), (by first | (simp only [upd, put, Nat.reduceEqDiff, ↓reduceIte, t5]; done) | (simp [upd, put, t5]; done) | rfl | (simp [upd, put, t5]; rfl)), (by first | (simp only [upd, put, Nat.reduceEqDiff, ↓reduceIte, t6]; done) | (simp [upd, put, t6]; done) | rfl | (simp [upd, put, t6]; rfl)), (by first | (simp only [upd, put, Nat.reduceEqDiff, ↓reduceIte, t8]; done) | (simp [upd, put, t8]; done) | rfl | (simp [upd, put, t8]; rfl)), (by first | (simp only [upd, put, Nat.reduceEqDiff, ↓reduceIte, t12]; done) | (simp [upd, put, t12]; done) | rfl | (simp [upd, put, t12]; rfl)), (by first | (simp only [upd, put, Nat.reduceEqDiff, ↓reduceIte, t13]; done) | (simp [upd, put, t13]; done) | rfl | (simp [upd, put, t13]; rfl)), (by first | (simp only [upd, put, Nat.reduceEqDiff, ↓reduceIte, t14]; done) | (simp [upd, put, t14]; done) | rfl | (simp [upd, put, t14]; rfl)), (by first | (simp only [upd, put, Nat.reduceEqDiff, ↓reduceIte, t15]; done) | (simp [upd, put, t15]; done) | rfl | (simp [upd, put, t15]; rfl)), (by first | (simp only [upd, put, Nat.reduceEqDiff, ↓reduceIte, t16]; done) | (simp [upd, put, t16]; done) | rfl | (simp [upd, put, t16]; rfl)), (by first | (simp only [upd, put, Nat.reduceEqDiff, ↓reduceIte, t17]; done) | (simp [upd, put, t17]; done) | rfl | (simp [upd, put, t17]; rfl))⟩, (.inr (.inl ⟨rfl, ⟨by rw [hupd_at, if_pos rfl], by rw [hupd_ne HE.out.2.2.2.1]; exact kb, fun c hc => by rw [hupd_ne hc]; exact HS6.out c hc⟩, ttt, ttt⟩))⟩
                  · have ka := hS6.1
                    have kb := hS6.2.1
                    have HS6 := Hid.mk hS6.2.2
                    clear hS6
                    repeat' (first | exact tf0 ‹_› | exact tf1 ‹_› | exact False.elim ‹_› | (with_reducible refine Al.intro ?_; intro pb hpb; (try simp only [hupd_none'] at hpb); (repeat rcases hpb with ⟨⟨hpx, hpy⟩, hpb⟩)) | with_reducible refine need ?_ | ((with_reducible first | refine frk0 ?_ ?_ | refine frk1 ?_ ?_ | refine frk2 ?_ ?_ | refine frk3 ?_ ?_ | refine frk4 ?_ ?_ | refine frk5 ?_ ?_ | refine frk6 ?_ ?_ | refine frk7 ?_ ?_ | refine frk8 ?_ ?_ | refine frk9 ?_ ?_) <;> intro h <;> try (exfalso; omega)) | with_reducible refine quiet_and ?_ ?_ | with_reducible refine awp_drawnA mixed (by decide +kernel) ?_ | ((fail_if_success with_reducible refine stp ?_); simp -implicitDefEqProofs only [go_sem, Nat.reduceEqDiff, Nat.reduceAdd, Nat.reduceLT, Nat.reduceMul, Nat.reduceSub, Nat.reduceLeDiff, ↓reduceIte, reduceCtorEq, ↓String.reduceEq, String.reduceNe, Int.reduceToNat, Int.reduceLT, Int.reduceLE, Int.reduceGT, Int.reduceGE, Int.reduceEq, Int.reduceNe, Int.reduceBEq, Int.reduceBNe, Int.reduceAdd, Int.reduceSub, Int.reduceMul, Int.reduceNeg,  *]))
                    exact Again.intro ⟨4, by decide, _, Sub.refl _, ⟨(by first | (simp only [upd, put, Nat.reduceEqDiff, ↓reduceIte, t1]; done) | (simp [upd, put, t1]; done) | rfl | (simp [upd, put, t1]; rfl)), (by first | (simp only [upd, put, Nat.reduceEqDiff, ↓reduceIte, t5]; done) | (simp [upd, put, t5]; done) | rfl | (simp [upd, put, t5]; rfl)), (by first | (simp only [upd, put, Nat.reduceEqDiff, ↓reduceIte, t6]; done) | (simp [upd, put, t6]; done) | rfl | (simp [upd, put, t6]; rfl)), (by first | (simp only [upd, put, Nat.reduceEqDiff, ↓reduceIte, t8]; done) | (simp [upd, put, t8]; done) | rfl | (simp [upd, put, t8]; rfl)), (by first | (simp only [upd, put, Nat.reduceEqDiff, ↓reduceIte, t12]; done) | (simp [upd, put, t12]; done) | rfl | (simp [upd, put, t12]; rfl)), (by first | (simp only [upd, put, Nat.reduceEqDiff, ↓reduceIte, t13]; done) | (simp [upd, put, t13]; done) | rfl | (simp [upd, put, t13]; rfl)), (by first | (simp only [upd, put, Nat.reduceEqDiff, ↓reduceIte, t14]; done) | (simp [upd, put, t14]; done) | rfl | (simp [upd, put, t14]; rfl)), (by first | (simp only [upd, put, Nat.reduceEqDiff, ↓reduceIte, t15]; done) | (simp [upd, put, t15]; done) | rfl | (simp [upd, put, t15]; rfl)), (by first | (simp only [upd, put, Nat.reduceEqDiff, ↓reduceIte, t16]; done) | (simp [upd, put, t16]; done) | rfl | (simp [upd, put, t16]; rfl)), (by first | (simp only [upd, put, Nat.reduceEqDiff, ↓reduceIte, t17]; done) | (simp [upd, put, t17]; done) | rfl | (simp [upd, put, t17]; rfl))⟩, (.inr (.inr (.inl ⟨rfl, ⟨by rw [hupd_at, if_pos rfl], by rw [hupd_ne HE.out.2.2.2.1]; exact kb, fun c hc => by rw [hupd_ne hc]; exact HS6.out c hc⟩, ttt, ttt⟩)))⟩
                  · have ka := hS6.1
                    have kb := hS6.2.1
                    have HS6 := Hid.mk hS6.2.2
                    clear hS6
                    repeat' (first | exact tf0 ‹_› | exact tf1 ‹_› | exact False.elim ‹_› | (with_reducible refine Al.intro ?_; intro pb hpb; (try simp only [hupd_none'] at hpb); (repeat rcases hpb with ⟨⟨hpx, hpy⟩, hpb⟩)) | with_reducible refine need ?_ | ((with_reducible first | refine frk0 ?_ ?_ | refine frk1 ?_ ?_ | refine frk2 ?_ ?_ | refine frk3 ?_ ?_ | refine frk4 ?_ ?_ | refine frk5 ?_ ?_ | refine frk6 ?_ ?_ | refine frk7 ?_ ?_ | refine frk8 ?_ ?_ | refine frk9 ?_ ?_) <;> intro h <;> try (exfalso; omega)) | with_reducible refine quiet_and ?_ ?_ | with_reducible refine awp_drawnA mixed (by decide +kernel) ?_ | ((fail_if_success with_reducible refine stp ?_); simp -implicitDefEqProofs only [go_sem, Nat.reduceEqDiff, Nat.reduceAdd, Nat.reduceLT, Nat.reduceMul, Nat.reduceSub, Nat.reduceLeDiff, ↓reduceIte, reduceCtorEq, ↓String.reduceEq, String.reduceNe, Int.reduceToNat, Int.reduceLT, Int.reduceLE, Int.reduceGT, Int.reduceGE, Int.reduceEq, Int.reduceNe, Int.reduceBEq, Int.reduceBNe, Int.reduceAdd, Int.reduceSub, Int.reduceMul, Int.reduceNeg,  *]))
                    exact Again.intro ⟨3, by decide, _, Sub.refl _, ⟨(by first | (simp only [upd, put, Nat.reduceEqDiff, ↓reduceIte, t1]; done) | (simp [upd, put, t1]; done) | rfl | (simp [upd, put, t1]; rfl)), (by first | (simp only [upd, put, Nat.reduceEqDiff, ↓reduceIte, t5]; done) | (simp [upd, put, t5]; done) | rfl | (simp [upd, put, t5]; rfl)), (by first | (simp only [upd, put, Nat.reduceEqDiff, ↓reduceIte, t6]; done) | (simp [upd, put, t6]; done) | rfl | (simp [upd, put, t6]; rfl)), (by first | (simp only [upd, put, Nat.reduceEqDiff, ↓reduceIte, t8]; done) | (simp [upd, put, t8]; done) | rfl | (simp [upd, put, t8]; rfl)), (by first | (simp only [upd, put, Nat.reduceEqDiff, ↓reduceIte, t12]; done) | (simp [upd, put, t12]; done) | rfl | (simp [upd, put, t12]; rfl)), (by first | (simp only [upd, put, Nat.reduceEqDiff, ↓reduceIte, t13]; done) | (simp [upd, put, t13]; done) | rfl | (simp [upd, put, t13]; rfl)), (by first | (simp only [upd, put, Nat.reduceEqDiff, ↓reduceIte, t14]; done) | (simp [upd, put, t14]; done) | rfl | (simp [upd, put, t14]; rfl)), (by first | (simp only [upd, put, Nat.reduceEqDiff, ↓reduceIte, t15]; done) | (simp [upd, put, t15]; done) | rfl | (simp [upd, put, t15]; rfl)), (by first | (simp only [upd, put, Nat.reduceEqDiff, ↓reduceIte, t16]; done) | (simp [upd, put, t16]; done) | rfl | (simp [upd, put, t16]; rfl)), (by first | (simp only [upd, put, Nat.reduceEqDiff, ↓reduceIte, t17]; done) | (simp [upd, put, t17]; done) | rfl | (simp [upd, put, t17]; rfl))⟩, (.inr (.inr (.inr (.inl ⟨rfl, ⟨by rw [hupd_at, if_pos rfl], by rw [hupd_ne HE.out.2.2.2.1]; exact kb, fun c hc => by rw [hupd_ne hc]; exact HS6.out c hc⟩, ttt, ttt⟩))))⟩
                  · have ka := hS6.1
                    have kb := hS6.2.1
                    have HS6 := Hid.mk hS6.2.2
                    clear hS6
                    repeat' (first | exact tf0 ‹_› | exact tf1 ‹_› | exact False.elim ‹_› | (with_reducible refine Al.intro ?_; intro pb hpb; (try simp only [hupd_none'] at hpb); (repeat rcases hpb with ⟨⟨hpx, hpy⟩, hpb⟩)) | with_reducible refine need ?_ | ((with_reducible first | refine frk0 ?_ ?_ | refine frk1 ?_ ?_ | refine frk2 ?_ ?_ | refine frk3 ?_ ?_ | refine frk4 ?_ ?_ | refine frk5 ?_ ?_ | refine frk6 ?_ ?_ | refine frk7 ?_ ?_ | refine frk8 ?_ ?_ | refine frk9 ?_ ?_) <;> intro h <;> try (exfalso; omega)) | with_reducible refine quiet_and ?_ ?_ | with_reducible refine awp_drawnA mixed (by decide +kernel) ?_ | ((fail_if_success with_reducible refine stp ?_); simp -implicitDefEqProofs only [go_sem, Nat.reduceEqDiff, Nat.reduceAdd, Nat.reduceLT, Nat.reduceMul, Nat.reduceSub, Nat.reduceLeDiff, ↓reduceIte, reduceCtorEq, ↓String.reduceEq, String.reduceNe, Int.reduceToNat, Int.reduceLT, Int.reduceLE, Int.reduceGT, Int.reduceGE, Int.reduceEq, Int.reduceNe, Int.reduceBEq, Int.reduceBNe, Int.reduceAdd, Int.reduceSub, Int.reduceMul, Int.reduceNeg,  *]))
                    exact Again.intro ⟨2, by decide, _, Sub.refl _, ⟨(by first | (simp only [upd, put, Nat.reduceEqDiff, ↓reduceIte, t1]; done) | (simp [upd, put, t1]; done) | rfl | (simp [upd, put, t1]; rfl)), (by first | (simp only [upd, put, Nat.reduceEqDiff, ↓reduceIte, t5]; done) | (simp [upd, put, t5]; done) | rfl | (simp [upd, put, t5]; rfl)), (by first | (simp only [upd, put, Nat.reduceEqDiff, ↓reduceIte, t6]; done) | (simp [upd, put, t6]; done) | rfl | (simp [upd, put, t6]; rfl)), (by first | (simp only [upd, put, Nat.reduceEqDiff, ↓reduceIte, t8]; done) | (simp [upd, put, t8]; done) | rfl | (simp [upd, put, t8]; rfl)), (by first | (simp only [upd, put, Nat.reduceEqDiff, ↓reduceIte, t12]; done) | (simp [upd, put, t12]; done) | rfl | (simp [upd, put, t12]; rfl)), (by first | (simp only [upd, put, Nat.reduceEqDiff, ↓reduceIte, t13]; done) | (simp [upd, put, t13]; done) | rfl | (simp [upd, put, t13]; rfl)), (by first | (simp only [upd, put, Nat.reduceEqDiff, ↓reduceIte, t14]; done) | (simp [upd, put, t14]; done) | rfl | (simp [upd, put, t14]; rfl)), (by first | (simp only [upd, put, Nat.reduceEqDiff, ↓reduceIte, t15]; done) | (simp [upd, put, t15]; done) | rfl | (simp [upd, put, t15]; rfl)), (by first | (simp only [upd, put, Nat.reduceEqDiff, ↓reduceIte, t16]; done) | (simp [upd, put, t16]; done) | rfl | (simp [upd, put, t16]; rfl)), (by first | (simp only [upd, put, Nat.reduceEqDiff, ↓reduceIte, t17]; done) | (simp [upd, put, t17]; done) | rfl | (simp [upd, put, t17]; rfl))⟩, (.inr (.inr (.inr (.inr (.inl ⟨rfl, ⟨by rw [hupd_at, if_pos rfl], by rw [hupd_ne HE.out.2.2.2.1]; exact kb, fun c hc => by rw [hupd_ne hc]; exact HS6.out c hc⟩, ttt, ttt⟩)))))⟩
                  · have ka := hS6.1
                    have kb := hS6.2.1
                    have HS6 := Hid.mk hS6.2.2
                    clear hS6
                    repeat' (first | exact tf0 ‹_› | exact tf1 ‹_› | exact False.elim ‹_› | (with_reducible refine Al.intro ?_; intro pb hpb; (try simp only [hupd_none'] at hpb); (repeat rcases hpb with ⟨⟨hpx, hpy⟩, hpb⟩)) | with_reducible refine need ?_ | ((with_reducible first | refine frk0 ?_ ?_ | refine frk1 ?_ ?_ | refine frk2 ?_ ?_ | refine frk3 ?_ ?_ | refine frk4 ?_ ?_ | refine frk5 ?_ ?_ | refine frk6 ?_ ?_ | refine frk7 ?_ ?_ | refine frk8 ?_ ?_ | refine frk9 ?_ ?_) <;> intro h <;> try (exfalso; omega)) | with_reducible refine quiet_and ?_ ?_ | with_reducible refine awp_drawnA mixed (by decide +kernel) ?_ | ((fail_if_success with_reducible refine stp ?_); simp -implicitDefEqProofs only [go_sem, Nat.reduceEqDiff, Nat.reduceAdd, Nat.reduceLT, Nat.reduceMul, Nat.reduceSub, Nat.reduceLeDiff, ↓reduceIte, reduceCtorEq, ↓String.reduceEq, String.reduceNe, Int.reduceToNat, Int.reduceLT, Int.reduceLE, Int.reduceGT, Int.reduceGE, Int.reduceEq, Int.reduceNe, Int.reduceBEq, Int.reduceBNe, Int.reduceAdd, Int.reduceSub, Int.reduceMul, Int.reduceNeg,  *]))
                    exact Again.intro ⟨1, by decide, _, Sub.refl _, ⟨(by first | (simp only [upd, put, Nat.reduceEqDiff, ↓reduceIte, t1]; done) | (simp [upd, put, t1]; done) | rfl | (simp [upd, put, t1]; rfl)), (by first | (simp only [upd, put, Nat.reduceEqDiff, ↓reduceIte, t5]; done) | (simp [upd, put, t5]; done) | rfl | (simp [upd, put, t5]; rfl)), (by first | (simp only [upd, put, Nat.reduceEqDiff, ↓reduceIte, t6]; done) | (simp [upd, put, t6]; done) | rfl | (simp [upd, put, t6]; rfl)), (by first | (simp only [upd, put, Nat.reduceEqDiff, ↓reduceIte, t8]; done) | (simp [upd, put, t8]; done) | rfl | (simp [upd, put, t8]; rfl)), (by first | (simp only [upd, put, Nat.reduceEqDiff, ↓reduceIte, t12]; done) | (simp [upd, put, t12]; done) | rfl | (simp [upd, put, t12]; rfl)), (by first | (simp only [upd, put, Nat.reduceEqDiff, ↓reduceIte, t13]; done) | (simp [upd, put, t13]; done) | rfl | (simp [upd, put, t13]; rfl)), (by first | (simp only [upd, put, Nat.reduceEqDiff, ↓reduceIte, t14]; done) | (simp [upd, put, t14]; done) | rfl | (simp [upd, put, t14]; rfl)), (by first | (simp only [upd, put, Nat.reduceEqDiff, ↓reduceIte, t15]; done) | (simp [upd, put, t15]; done) | rfl | (simp [upd, put, t15]; rfl)), (by first | (simp only [upd, put, Nat.reduceEqDiff, ↓reduceIte, t16]; done) | (simp [upd, put, t16]; done) | rfl | (simp [upd, put, t16]; rfl)), (by first | (simp only [upd, put, Nat.reduceEqDiff, ↓reduceIte, t17]; done) | (simp [upd, put, t17]; done) | rfl | (simp [upd, put, t17]; rfl))⟩, (.inr (.inr (.inr (.inr (.inr (.inl ⟨rfl, ⟨by rw [hupd_at, if_pos rfl], by rw [hupd_ne HE.out.2.2.2.1]; exact kb, fun c hc => by rw [hupd_ne hc]; exact HS6.out c hc⟩, ttt, ttt⟩))))))⟩
                  · have ka := hS6.1
                    have kb := hS6.2.1
                    have HS6 := Hid.mk hS6.2.2
                    clear hS6
                    repeat' (first | exact tf0 ‹_› | exact tf1 ‹_› | exact False.elim ‹_› | (with_reducible refine Al.intro ?_; intro pb hpb; (try simp only [hupd_none'] at hpb); (repeat rcases hpb with ⟨⟨hpx, hpy⟩, hpb⟩)) | with_reducible refine need ?_ | ((with_reducible first | refine frk0 ?_ ?_ | refine frk1 ?_ ?_ | refine frk2 ?_ ?_ | refine frk3 ?_ ?_ | refine frk4 ?_ ?_ | refine frk5 ?_ ?_ | refine frk6 ?_ ?_ | refine frk7 ?_ ?_ | refine frk8 ?_ ?_ | refine frk9 ?_ ?_) <;> intro h <;> try (exfalso; omega)) | with_reducible refine quiet_and ?_ ?_ | with_reducible refine awp_drawnA mixed (by decide +kernel) ?_ | ((fail_if_success with_reducible refine stp ?_); simp -implicitDefEqProofs only [go_sem, Nat.reduceEqDiff, Nat.reduceAdd, Nat.reduceLT, Nat.reduceMul, Nat.reduceSub, Nat.reduceLeDiff, ↓reduceIte, reduceCtorEq, ↓String.reduceEq, String.reduceNe, Int.reduceToNat, Int.reduceLT, Int.reduceLE, Int.reduceGT, Int.reduceGE, Int.reduceEq, Int.reduceNe, Int.reduceBEq, Int.reduceBNe, Int.reduceAdd, Int.reduceSub, Int.reduceMul, Int.reduceNeg,  *]))
                    exact Again.intro ⟨0, by decide, _, Sub.refl _, ⟨(by first | (simp only [upd, put, Nat.reduceEqDiff, ↓reduceIte, t1]; done) | (simp [upd, put, t1]; done) | rfl | (simp [upd, put, t1]; rfl)), (by first | (simp only [upd, put, Nat.reduceEqDiff, ↓reduceIte, t5]; done) | (simp [upd, put, t5]; done) | rfl | (simp [upd, put, t5]; rfl)), (by first | (simp only [upd, put, Nat.reduceEqDiff, ↓reduceIte, t6]; done) | (simp [upd, put, t6]; done) | rfl | (simp [upd, put, t6]; rfl)), (by first | (simp only [upd, put, Nat.reduceEqDiff, ↓reduceIte, t8]; done) | (simp [upd, put, t8]; done) | rfl | (simp [upd, put, t8]; rfl)), (by first | (simp only [upd, put, Nat.reduceEqDiff, ↓reduceIte, t12]; done) | (simp [upd, put, t12]; done) | rfl | (simp [upd, put, t12]; rfl)), (by first | (simp only [upd, put, Nat.reduceEqDiff, ↓reduceIte, t13]; done) | (simp [upd, put, t13]; done) | rfl | (simp [upd, put, t13]; rfl)), (by first | (simp only [upd, put, Nat.reduceEqDiff, ↓reduceIte, t14]; done) | (simp [upd, put, t14]; done) | rfl | (simp [upd, put, t14]; rfl)), (by first | (simp only [upd, put, Nat.reduceEqDiff, ↓reduceIte, t15]; done) | (simp [upd, put, t15]; done) | rfl | (simp [upd, put, t15]; rfl)), (by first | (simp only [upd, put, Nat.reduceEqDiff, ↓reduceIte, t16]; done) | (simp [upd, put, t16]; done) | rfl | (simp [upd, put, t16]; rfl)), (by first | (simp only [upd, put, Nat.reduceEqDiff, ↓reduceIte, t17]; done) | (simp [upd, put, t17]; done) | rfl | (simp [upd, put, t17]; rfl))⟩, (.inr (.inr (.inr (.inr (.inr (.inr ⟨rfl, ⟨by rw [hupd_at, if_pos rfl], by rw [hupd_ne HE.out.2.2.2.1]; exact kb, fun c hc => by rw [hupd_ne hc]; exact HS6.out c hc⟩, ttt, ttt⟩))))))⟩
                  · have HS6 := Hid.mk hS6
                    clear hS6
                    repeat' (first | exact tf0 ‹_› | exact tf1 ‹_› | exact False.elim ‹_› | (with_reducible refine Al.intro ?_; intro pb hpb; (try simp only [hupd_none'] at hpb); (repeat rcases hpb with ⟨⟨hpx, hpy⟩, hpb⟩)) | with_reducible refine need ?_ | ((with_reducible first | refine frk0 ?_ ?_ | refine frk1 ?_ ?_ | refine frk2 ?_ ?_ | refine frk3 ?_ ?_ | refine frk4 ?_ ?_ | refine frk5 ?_ ?_ | refine frk6 ?_ ?_ | refine frk7 ?_ ?_ | refine frk8 ?_ ?_ | refine frk9 ?_ ?_) <;> intro h <;> try (exfalso; omega)) | with_reducible refine quiet_and ?_ ?_ | with_reducible refine awp_drawnA mixed (by decide +kernel) ?_ | ((fail_if_success with_reducible refine stp ?_); simp -implicitDefEqProofs only [go_sem, Nat.reduceEqDiff, Nat.reduceAdd, Nat.reduceLT, Nat.reduceMul, Nat.reduceSub, Nat.reduceLeDiff, ↓reduceIte, reduceCtorEq, ↓String.reduceEq, String.reduceNe, Int.reduceToNat, Int.reduceLT, Int.reduceLE, Int.reduceGT, Int.reduceGE, Int.reduceEq, Int.reduceNe, Int.reduceBEq, Int.reduceBNe, Int.reduceAdd, Int.reduceSub, Int.reduceMul, Int.reduceNeg,  *]))
                    exact Again.intro ⟨HS6.out, (by first | (simp only [upd, put, Nat.reduceEqDiff, ↓reduceIte, t18]; done) | (simp [upd, put, t18]; done) | rfl | (simp [upd, put, t18]; rfl)), (by first | (simp only [upd, put, Nat.reduceEqDiff, ↓reduceIte, t1]; done) | (simp [upd, put, t1]; done) | rfl | (simp [upd, put, t1]; rfl)), (by first | (simp only [upd, put, Nat.reduceEqDiff, ↓reduceIte, t5]; done) | (simp [upd, put, t5]; done) | rfl | (simp [upd, put, t5]; rfl)), (by first | (simp only [upd, put, Nat.reduceEqDiff, ↓reduceIte, t6]; done) | (simp [upd, put, t6]; done) | rfl | (simp [upd, put, t6]; rfl)), (by first | (simp only [upd, put, Nat.reduceEqDiff, ↓reduceIte, t8]; done) | (simp [upd, put, t8]; done) | rfl | (simp [upd, put, t8]; rfl)), (by first | (simp only [upd, put, Nat.reduceEqDiff, ↓reduceIte, t12]; done) | (simp [upd, put, t12]; done) | rfl | (simp [upd, put, t12]; rfl)), (by first | (simp only [upd, put, Nat.reduceEqDiff, ↓reduceIte, t13]; done) | (simp [upd, put, t13]; done) | rfl | (simp [upd, put, t13]; rfl)), (by first | (simp only [upd, put, Nat.reduceEqDiff, ↓reduceIte, t14]; done) | (simp [upd, put, t14]; done) | rfl | (simp [upd, put, t14]; rfl)), (by first | (simp only [upd, put, Nat.reduceEqDiff, ↓reduceIte, t15]; done) | (simp [upd, put, t15]; done) | rfl | (simp [upd, put, t15]; rfl)), (by first | (simp only [upd, put, Nat.reduceEqDiff, ↓reduceIte, t16]; done) | (simp [upd, put, t16]; done) | rfl | (simp [upd, put, t16]; rfl)), (by first | (simp only [upd, put, Nat.reduceEqDiff, ↓reduceIte, t17]; done) | (simp [upd, put, t17]; done) | rfl | (simp [upd, put, t17]; rfl))⟩
                · rintro ts m6 ⟨hS6, t18, t1, t5, t6, t8, t12, t13, t14, t15, t16, t17⟩
                  have ka := hS6.1
                  have kb := hS6.2.1
                  have HS6 := Hid.mk hS6.2.2
                  clear hS6
                  repeat' (first | exact tf0 ‹_› | exact tf1 ‹_› | exact False.elim ‹_› | (with_reducible refine Al.intro ?_; intro pb hpb; (try simp only [hupd_none'] at hpb); (repeat rcases hpb with ⟨⟨hpx, hpy⟩, hpb⟩)) | with_reducible refine need ?_ | ((with_reducible first | refine frk0 ?_ ?_ | refine frk1 ?_ ?_ | refine frk2 ?_ ?_ | refine frk3 ?_ ?_ | refine frk4 ?_ ?_ | refine frk5 ?_ ?_ | refine frk6 ?_ ?_ | refine frk7 ?_ ?_ | refine frk8 ?_ ?_ | refine frk9 ?_ ?_) <;> intro h <;> try (exfalso; omega)) | with_reducible refine quiet_and ?_ ?_ | with_reducible refine awp_drawnA mixed (by decide +kernel) ?_ | ((fail_if_success with_reducible refine stp ?_); simp -implicitDefEqProofs only [go_sem, Nat.reduceEqDiff, Nat.reduceAdd, Nat.reduceLT, Nat.reduceMul, Nat.reduceSub, Nat.reduceLeDiff, ↓reduceIte, reduceCtorEq, ↓String.reduceEq, String.reduceNe, Int.reduceToNat, Int.reduceLT, Int.reduceLE, Int.reduceGT, Int.reduceGE, Int.reduceEq, Int.reduceNe, Int.reduceBEq, Int.reduceBNe, Int.reduceAdd, Int.reduceSub, Int.reduceMul, Int.reduceNeg,  *]))
                  have hr6 : Rep T S L2 m6 := HE.out.1.keep (fun c hc => HS6.out c (fun e => HD.out.1 (by rw [← e]; exact hc))) (fun c hc => HS6.out c (fun e => HD.out.2.1 (by rw [← e]; exact hc)))
                  have hs6 : Sub m1 m6 := fun c y hc => by rw [HS6.out c (fun e => by rw [e, HD.out.2.2.1] at hc; cases hc)]; exact HE.out.2.1 c y hc
                  exact Again.intro ⟨LL - (j + 1), by have := d65.out; omega, _, Sub.refl _, j + 1, c2, d0, d1, d2, d3, d4, d5, .mk ⟨rfl, by omega, HY.out, hr6, hs6⟩, by rw [HS6.out p12 h16.out]; exact HE.out.2.2.1, ka, (by first | (simp only [upd, put, Nat.reduceEqDiff, ↓reduceIte, t1]; done) | (simp [upd, put, t1]; done) | rfl | (simp [upd, put, t1]; rfl)), (by first | (simp only [upd, put, Nat.reduceEqDiff, ↓reduceIte, t5]; done) | (simp [upd, put, t5]; done) | rfl | (simp [upd, put, t5]; rfl)), (by first | (simp only [upd, put, Nat.reduceEqDiff, ↓reduceIte, t6]; done) | (simp [upd, put, t6]; done) | rfl | (simp [upd, put, t6]; rfl)), (by first | (simp only [upd, put, Nat.reduceEqDiff, ↓reduceIte, t8]; done) | (simp [upd, put, t8]; done) | rfl | (simp [upd, put, t8]; rfl)), (by first | (simp only [upd, put, Nat.reduceEqDiff, ↓reduceIte, t12]; done) | (simp [upd, put, t12]; done) | rfl | (simp [upd, put, t12]; rfl)), ttt, (by first | (simp only [upd, put, Nat.reduceEqDiff, ↓reduceIte, t14]; done) | (simp [upd, put, t14]; done) | rfl | (simp [upd, put, t14]; rfl)), ttt⟩
              · have ltj : ¬ (j : Int) < (LL : Int) := by omega
                have ej : j = LL := by have := H5.out.2.1; omega
                subst ej
                obtain ⟨z0, z1, z2, z3, z4, z5, z6⟩ := H5.out.2.2.1
                obtain ⟨⟨q0, q1, q2, q3, q4, q5, q6⟩, -⟩ := hcl.out
                have u0 := z0.symm.trans q0
                have u1 := z1.symm.trans q1
                have u2 := z2.symm.trans q2
                have u3 := z3.symm.trans q3
                have u4 := z4.symm.trans q4
                have u5 := z5.symm.trans q5
                have u6 := z6.symm.trans q6
                clear z0 z1 z2 z3 z4 z5 z6 q0 q1 q2 q3 q4 q5 q6
                subst u0 u1 u2 u3 u4 u5 u6
                rcases hw with ⟨hv, hz⟩ | ⟨hv, hb⟩
                all_goals (
                  subst hv
                  try clear hb
                  try (have hz0 := Hid.mk hz; clear hz)
                  repeat' (first | exact tf0 ‹_› | exact tf1 ‹_› | exact False.elim ‹_› | (with_reducible refine Al.intro ?_; intro pb hpb; (try simp only [hupd_none'] at hpb); (repeat rcases hpb with ⟨⟨hpx, hpy⟩, hpb⟩)) | with_reducible refine need ?_ | ((with_reducible first | refine frk0 ?_ ?_ | refine frk1 ?_ ?_ | refine frk2 ?_ ?_ | refine frk3 ?_ ?_ | refine frk4 ?_ ?_ | refine frk5 ?_ ?_ | refine frk6 ?_ ?_ | refine frk7 ?_ ?_ | refine frk8 ?_ ?_ | refine frk9 ?_ ?_) <;> intro h <;> try (exfalso; omega)) | with_reducible refine quiet_and ?_ ?_ | with_reducible refine awp_drawnA mixed (by decide +kernel) ?_ | ((fail_if_success with_reducible refine stp ?_); simp -implicitDefEqProofs only [go_sem, Nat.reduceEqDiff, Nat.reduceAdd, Nat.reduceLT, Nat.reduceMul, Nat.reduceSub, Nat.reduceLeDiff, ↓reduceIte, reduceCtorEq, ↓String.reduceEq, String.reduceNe, Int.reduceToNat, Int.reduceLT, Int.reduceLE, Int.reduceGT, Int.reduceGE, Int.reduceEq, Int.reduceNe, Int.reduceBEq, Int.reduceBNe, Int.reduceAdd, Int.reduceSub, Int.reduceMul, Int.reduceNeg,  *]))
                  exact Again.intro ⟨.mk H5.out.2.2.2, k12, k14, (by first | (simp only [upd, put, Nat.reduceEqDiff, ↓reduceIte, t1]; done) | (simp [upd, put, t1]; done) | rfl | (simp [upd, put, t1]; rfl)), (by first | (simp only [upd, put, Nat.reduceEqDiff, ↓reduceIte, t5]; done) | (simp [upd, put, t5]; done) | rfl | (simp [upd, put, t5]; rfl)), (by first | (simp only [upd, put, Nat.reduceEqDiff, ↓reduceIte, t6]; done) | (simp [upd, put, t6]; done) | rfl | (simp [upd, put, t6]; rfl)), (by first | (simp only [upd, put, Nat.reduceEqDiff, ↓reduceIte, t8]; done) | (simp [upd, put, t8]; done) | rfl | (simp [upd, put, t8]; rfl)), (by first | (simp only [upd, put, Nat.reduceEqDiff, ↓reduceIte, t12]; done) | (simp [upd, put, t12]; done) | rfl | (simp [upd, put, t12]; rfl)), (by first | (simp only [upd, put, Nat.reduceEqDiff, ↓reduceIte, t13]; done) | (simp [upd, put, t13]; done) | rfl | (simp [upd, put, t13]; rfl)), (by first | (simp only [upd, put, Nat.reduceEqDiff, ↓reduceIte, t14]; done) | (simp [upd, put, t14]; done) | rfl | (simp [upd, put, t14]; rfl))⟩)
            · rintro ts m5 ⟨H5, k12, k14, t1, t5, t6, t8, t12, t13, t14⟩
              repeat' (first | exact tf0 ‹_› | exact tf1 ‹_› | exact False.elim ‹_› | (with_reducible refine Al.intro ?_; intro pb hpb; (try simp only [hupd_none'] at hpb); (repeat rcases hpb with ⟨⟨hpx, hpy⟩, hpb⟩)) | with_reducible refine need ?_ | ((with_reducible first | refine frk0 ?_ ?_ | refine frk1 ?_ ?_ | refine frk2 ?_ ?_ | refine frk3 ?_ ?_ | refine frk4 ?_ ?_ | refine frk5 ?_ ?_ | refine frk6 ?_ ?_ | refine frk7 ?_ ?_ | refine frk8 ?_ ?_ | refine frk9 ?_ ?_) <;> intro h <;> try (exfalso; omega)) | with_reducible refine quiet_and ?_ ?_ | with_reducible refine awp_drawnA mixed (by decide +kernel) ?_ | ((fail_if_success with_reducible refine stp ?_); simp -implicitDefEqProofs only [go_sem, Nat.reduceEqDiff, Nat.reduceAdd, Nat.reduceLT, Nat.reduceMul, Nat.reduceSub, Nat.reduceLeDiff, ↓reduceIte, reduceCtorEq, ↓String.reduceEq, String.reduceNe, Int.reduceToNat, Int.reduceLT, Int.reduceLE, Int.reduceGT, Int.reduceGE, Int.reduceEq, Int.reduceNe, Int.reduceBEq, Int.reduceBNe, Int.reduceAdd, Int.reduceSub, Int.reduceMul, Int.reduceNeg,  *]))
              refine awp_drawnE [(0, .q), (1, .q), (2, .q), (3, .q), (4, .q), (5, .q), (6, .q), (7, .q), (8, .q), (9, .q), (10, .q), (11, .q), (14, .r [12]), (15, .r [12]), (16, .r [12]), (12, .e), (13, .q), (17, .q), (18, .q)] (fun _ => .undef) (fun _ => False) (fun u y => u = 12 ∧ y = p12) mixed (by decide +kernel) ?_
              repeat' (first | exact tf0 ‹_› | exact tf1 ‹_› | exact False.elim ‹_› | (with_reducible refine Al.intro ?_; intro pb hpb; (try simp only [hupd_none'] at hpb); (repeat rcases hpb with ⟨⟨hpx, hpy⟩, hpb⟩)) | with_reducible refine need ?_ | ((with_reducible first | refine frk0 ?_ ?_ | refine frk1 ?_ ?_ | refine frk2 ?_ ?_ | refine frk3 ?_ ?_ | refine frk4 ?_ ?_ | refine frk5 ?_ ?_ | refine frk6 ?_ ?_ | refine frk7 ?_ ?_ | refine frk8 ?_ ?_ | refine frk9 ?_ ?_) <;> intro h <;> try (exfalso; omega)) | with_reducible refine quiet_and ?_ ?_ | with_reducible refine awp_drawnA mixed (by decide +kernel) ?_ | ((fail_if_success with_reducible refine stp ?_); simp -implicitDefEqProofs only [go_sem, Nat.reduceEqDiff, Nat.reduceAdd, Nat.reduceLT, Nat.reduceMul, Nat.reduceSub, Nat.reduceLeDiff, ↓reduceIte, reduceCtorEq, ↓String.reduceEq, String.reduceNe, Int.reduceToNat, Int.reduceLT, Int.reduceLE, Int.reduceGT, Int.reduceGE, Int.reduceEq, Int.reduceNe, Int.reduceBEq, Int.reduceBNe, Int.reduceAdd, Int.reduceSub, Int.reduceMul, Int.reduceNeg,  aeqEs, rcell, true_and, false_and, *]))
              refine open_spec G T S L2 (by have hz2 : L2.length ≤ i + 1 := HD.out.2.2.2.2.1; omega) m5 H5.out.1 _ (fun vo m6 hso hS6 _ => ?_)
              have k12' := hS6 _ _ k12
              have hg := hcl.out.2
              have HZ := Hid.mk hS6
              clear hS6
              rcases hso with ⟨hv, hz⟩ | ⟨b2, blk, hb, pre, post, N, cap, hv, rfl, _⟩
              case' inl =>
                rw [hz] at hg
                have hg0 : g0 = 0 := hg.symm
                clear hg hz hcl
                subst hg0
              case' inr =>
                clear hb hcl
              all_goals (
                subst hv
                refine Need.intro (fun y hy => by rw [hy, k12', k12]) ?_
                clear k12'
                repeat' (first | exact tf0 ‹_› | exact tf1 ‹_› | exact False.elim ‹_› | (with_reducible refine Al.intro ?_; intro pb hpb; (try simp only [hupd_none'] at hpb); (repeat rcases hpb with ⟨⟨hpx, hpy⟩, hpb⟩)) | with_reducible refine need ?_ | ((with_reducible first | refine frk0 ?_ ?_ | refine frk1 ?_ ?_ | refine frk2 ?_ ?_ | refine frk3 ?_ ?_ | refine frk4 ?_ ?_ | refine frk5 ?_ ?_ | refine frk6 ?_ ?_ | refine frk7 ?_ ?_ | refine frk8 ?_ ?_ | refine frk9 ?_ ?_) <;> intro h <;> try (exfalso; omega)) | with_reducible refine quiet_and ?_ ?_ | with_reducible refine awp_drawnA mixed (by decide +kernel) ?_ | ((fail_if_success with_reducible refine stp ?_); simp -implicitDefEqProofs only [go_sem, Nat.reduceEqDiff, Nat.reduceAdd, Nat.reduceLT, Nat.reduceMul, Nat.reduceSub, Nat.reduceLeDiff, ↓reduceIte, reduceCtorEq, ↓String.reduceEq, String.reduceNe, Int.reduceToNat, Int.reduceLT, Int.reduceLE, Int.reduceGT, Int.reduceGE, Int.reduceEq, Int.reduceNe, Int.reduceBEq, Int.reduceBNe, Int.reduceAdd, Int.reduceSub, Int.reduceMul, Int.reduceNeg,  aeqEs, rcell, true_and, false_and, *]))
                exact Again.intro ⟨50 - (i + 1), by have := HD.out.2.2.2.2.2; omega, _, Sub.refl _, i + 1, L2, .mk ⟨rfl, by omega, by omega, H5.out.1.into HZ.out, HD.out.2.2.2.1, HD.out.2.2.2.2.1, subTrans H5.out.2 HZ.out⟩, (by first | (simp only [upd, put, Nat.reduceEqDiff, ↓reduceIte, t1]; done) | (simp [upd, put, t1]; done) | rfl | (simp [upd, put, t1]; rfl)), (by first | (simp only [upd, put, Nat.reduceEqDiff, ↓reduceIte, t5]; done) | (simp [upd, put, t5]; done) | rfl | (simp [upd, put, t5]; rfl)), (by first | (simp only [upd, put, Nat.reduceEqDiff, ↓reduceIte, t6]; done) | (simp [upd, put, t6]; done) | rfl | (simp [upd, put, t6]; rfl)), ttt⟩)))
      · have lt2 : ¬ (i : Int) < 50 := by omega
        repeat' (first | exact tf0 ‹_› | exact tf1 ‹_› | exact False.elim ‹_› | (with_reducible refine Al.intro ?_; intro pb hpb; (try simp only [hupd_none'] at hpb); (repeat rcases hpb with ⟨⟨hpx, hpy⟩, hpb⟩)) | with_reducible refine need ?_ | ((with_reducible first | refine frk0 ?_ ?_ | refine frk1 ?_ ?_ | refine frk2 ?_ ?_ | refine frk3 ?_ ?_ | refine frk4 ?_ ?_ | refine frk5 ?_ ?_ | refine frk6 ?_ ?_ | refine frk7 ?_ ?_ | refine frk8 ?_ ?_ | refine frk9 ?_ ?_) <;> intro h <;> try (exfalso; omega)) | with_reducible refine quiet_and ?_ ?_ | with_reducible refine awp_drawnA mixed (by decide +kernel) ?_ | ((fail_if_success with_reducible refine stp ?_); simp -implicitDefEqProofs only [go_sem, Nat.reduceEqDiff, Nat.reduceAdd, Nat.reduceLT, Nat.reduceMul, Nat.reduceSub, Nat.reduceLeDiff, ↓reduceIte, reduceCtorEq, ↓String.reduceEq, String.reduceNe, Int.reduceToNat, Int.reduceLT, Int.reduceLE, Int.reduceGT, Int.reduceGE, Int.reduceEq, Int.reduceNe, Int.reduceBEq, Int.reduceBNe, Int.reduceAdd, Int.reduceSub, Int.reduceMul, Int.reduceNeg,  *]))
        exact Again.intro (.mk H.out.2.2.2.2.2.2)
    · have lt : ¬ (i : Int) < (n : Int) := by omega
      repeat' (first | exact tf0 ‹_› | exact tf1 ‹_› | exact False.elim ‹_› | (with_reducible refine Al.intro ?_; intro pb hpb; (try simp only [hupd_none'] at hpb); (repeat rcases hpb with ⟨⟨hpx, hpy⟩, hpb⟩)) | with_reducible refine need ?_ | ((with_reducible first | refine frk0 ?_ ?_ | refine frk1 ?_ ?_ | refine frk2 ?_ ?_ | refine frk3 ?_ ?_ | refine frk4 ?_ ?_ | refine frk5 ?_ ?_ | refine frk6 ?_ ?_ | refine frk7 ?_ ?_ | refine frk8 ?_ ?_ | refine frk9 ?_ ?_) <;> intro h <;> try (exfalso; omega)) | with_reducible refine quiet_and ?_ ?_ | with_reducible refine awp_drawnA mixed (by decide +kernel) ?_ | ((fail_if_success with_reducible refine stp ?_); simp -implicitDefEqProofs only [go_sem, Nat.reduceEqDiff, Nat.reduceAdd, Nat.reduceLT, Nat.reduceMul, Nat.reduceSub, Nat.reduceLeDiff, ↓reduceIte, reduceCtorEq, ↓String.reduceEq, String.reduceNe, Int.reduceToNat, Int.reduceLT, Int.reduceLE, Int.reduceGT, Int.reduceGE, Int.reduceEq, Int.reduceNe, Int.reduceBEq, Int.reduceBNe, Int.reduceAdd, Int.reduceSub, Int.reduceMul, Int.reduceNeg,  *]))
      exact Again.intro (.mk H.out.2.2.2.2.2.2)
  · rintro ts m2 H
    repeat' (first | exact tf0 ‹_› | exact tf1 ‹_› | exact False.elim ‹_› | (with_reducible refine Al.intro ?_; intro pb hpb; (try simp only [hupd_none'] at hpb); (repeat rcases hpb with ⟨⟨hpx, hpy⟩, hpb⟩)) | with_reducible refine need ?_ | ((with_reducible first | refine frk0 ?_ ?_ | refine frk1 ?_ ?_ | refine frk2 ?_ ?_ | refine frk3 ?_ ?_ | refine frk4 ?_ ?_ | refine frk5 ?_ ?_ | refine frk6 ?_ ?_ | refine frk7 ?_ ?_ | refine frk8 ?_ ?_ | refine frk9 ?_ ?_) <;> intro h <;> try (exfalso; omega)) | with_reducible refine quiet_and ?_ ?_ | with_reducible refine awp_drawnA mixed (by decide +kernel) ?_ | ((fail_if_success with_reducible refine stp ?_); simp -implicitDefEqProofs only [go_sem, Nat.reduceEqDiff, Nat.reduceAdd, Nat.reduceLT, Nat.reduceMul, Nat.reduceSub, Nat.reduceLeDiff, ↓reduceIte, reduceCtorEq, ↓String.reduceEq, String.reduceNe, Int.reduceToNat, Int.reduceLT, Int.reduceLE, Int.reduceGT, Int.reduceGE, Int.reduceEq, Int.reduceNe, Int.reduceBEq, Int.reduceBNe, Int.reduceAdd, Int.reduceSub, Int.reduceMul, Int.reduceNeg,  *]))
    refine CallWP.to (live34_spec G HL.out.1 _) ?_
    repeat' (first | exact tf0 ‹_› | exact tf1 ‹_› | exact False.elim ‹_› | (with_reducible refine Al.intro ?_; intro pb hpb; (try simp only [hupd_none'] at hpb); (repeat rcases hpb with ⟨⟨hpx, hpy⟩, hpb⟩)) | with_reducible refine need ?_ | ((with_reducible first | refine frk0 ?_ ?_ | refine frk1 ?_ ?_ | refine frk2 ?_ ?_ | refine frk3 ?_ ?_ | refine frk4 ?_ ?_ | refine frk5 ?_ ?_ | refine frk6 ?_ ?_ | refine frk7 ?_ ?_ | refine frk8 ?_ ?_ | refine frk9 ?_ ?_) <;> intro h <;> try (exfalso; omega)) | with_reducible refine quiet_and ?_ ?_ | with_reducible refine awp_drawnA mixed (by decide +kernel) ?_ | ((fail_if_success with_reducible refine stp ?_); simp -implicitDefEqProofs only [go_sem, Nat.reduceEqDiff, Nat.reduceAdd, Nat.reduceLT, Nat.reduceMul, Nat.reduceSub, Nat.reduceLeDiff, ↓reduceIte, reduceCtorEq, ↓String.reduceEq, String.reduceNe, Int.reduceToNat, Int.reduceLT, Int.reduceLE, Int.reduceGT, Int.reduceGE, Int.reduceEq, Int.reduceNe, Int.reduceBEq, Int.reduceBNe, Int.reduceAdd, Int.reduceSub, Int.reduceMul, Int.reduceNeg,  *]))
    exact ⟨m, subTrans HS.out.2.1 H.out, rfl, rfl⟩
end Go.Proofs.YtdckcophbmnjjaaDoor
