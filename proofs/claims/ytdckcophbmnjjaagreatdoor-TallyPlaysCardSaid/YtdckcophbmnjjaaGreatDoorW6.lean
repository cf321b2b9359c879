/- A table of frames: how it lies in memory; a row of streams copied. A new table of frames. -/
import Derived.Test.YtdckcophbmnjjaaGreatDoorW4
import Derived.Test.YtdckcophbmnjjaaGreatDoorV1
set_option linter.all false
namespace Go.Proofs.YtdckcophbmnjjaaGreatDoor
open Go Go.Proofs.YtdckcophbmnjjaaGreatDoor.Ab
open Go.Proofs (Tryz.prog)
set_option maxRecDepth 100000
/-- Where a table's parts lie: itself, its streams, both maps, a stream's row. -/
structure Tab where
  tb : Nat
  v : AVal
  rm : Nat
  fm : Nat
  rb : Int → Nat
def pId (id : Int) (x : Ntd) : Bool := decide (x.2.1.1 = id)
def pAll (_ : Ntd) : Bool := true
def frV (x : Ntd) : AVal := .agg [.int .i64 x.2.1.1, .int .i64 x.2.1.2.1, .int .i64 x.2.1.2.2.1, .int .i64 x.2.1.2.2.2, .int .i64 x.2.2.1]
def rowsE (C : List Stm) (rb : Int → Nat) : List (Int × AVal) := C.map fun s => (s.1, .ptr (rb s.1) 0)
def frsE (L : List Ntd) : List (Int × AVal) := L.map fun x => (x.1, frV x)
/-- A table holds what came, and what became of it. -/
structure Rep (T : Tab) (C : List Stm) (L : List Ntd) (m : Heap) : Prop where
  tab : m T.tb = some (rowB T.v T.rm T.fm (-1) (rowOf pAll L))
  str : SlM encSc 7 C T.v m
  rows : ∃ bs cl, m T.rm = some (.map (rowsE C T.rb) bs cl)
  row : ∀ s ∈ C, m (T.rb s.1) = some (rowA s.1 (rowOf (pId s.1) L))
  frs : ∃ bs cl, m T.fm = some (.map (frsE L) bs cl) ∧ bs.Nodup ∧ (∀ x ∈ bs, x < cl) ∧ bs.length = L.length
  inj : ∀ s ∈ C, ∀ t ∈ C, T.rb s.1 = T.rb t.1 → s.1 = t.1
  sep : ∀ b, bOf T.v = some b → b ≠ T.tb ∧ ∀ s ∈ C, b ≠ T.rb s.1
  ne : T.rm ≠ T.fm
/-- The blocks that a table's calls may turn. -/
def Tab.own (T : Tab) (C : List Stm) (c : Nat) : Prop := c = T.tb ∨ c = T.rm ∨ c = T.fm ∨ ∃ s ∈ C, c = T.rb s.1
/-- What else there is stays. -/
def Else (T : Tab) (C : List Stm) (m m' : Heap) : Prop := ∀ c, m c ≠ none → ¬ T.own C c → m' c = m c
theorem Rep.keep {T : Tab} {C : List Stm} {L : List Ntd} {m m' : Heap} (h : Rep T C L m) (h1 : ∀ c, T.own C c → m' c = m c) (h2 : ∀ c, bOf T.v = some c → m' c = m c) : Rep T C L m' where
  tab := by rw [h1 _ (.inl rfl)]; exact h.tab
  str := h.str.keep h2
  rows := by rw [h1 _ (.inr (.inl rfl))]; exact h.rows
  row := fun s hs => by rw [h1 _ (.inr (.inr (.inr ⟨s, hs, rfl⟩)))]; exact h.row s hs
  frs := by rw [h1 _ (.inr (.inr (.inl rfl)))]; exact h.frs
  inj := h.inj
  sep := h.sep
  ne := h.ne
theorem Rep.into {T : Tab} {C : List Stm} {L : List Ntd} {m m' : Heap} (h : Rep T C L m) (s : Sub m m') : Rep T C L m' := by
  refine h.keep (fun c hc => ?_) (fun c hc => ?_)
  · rcases hc with rfl | rfl | rfl | ⟨t, ht, rfl⟩
    · rw [s _ _ h.tab, h.tab]
    · obtain ⟨bs, cl, e⟩ := h.rows; rw [s _ _ e, e]
    · obtain ⟨bs, cl, e, _⟩ := h.frs; rw [s _ _ e, e]
    · rw [s _ _ (h.row t ht), h.row t ht]
  · have := slm_some h.str hc
    cases hm : m c with
    | none => exact absurd hm this
    | some y => exact s _ _ hm
theorem Rep.owned {T : Tab} {C : List Stm} {L : List Ntd} {m : Heap} (h : Rep T C L m) {c : Nat} (hc : T.own C c) : m c ≠ none := by
  rcases hc with rfl | rfl | rfl | ⟨t, ht, rfl⟩
  · rw [h.tab]; simp
  · obtain ⟨bs, cl, e⟩ := h.rows; rw [e]; simp
  · obtain ⟨bs, cl, e, _⟩ := h.frs; rw [e]; simp
  · rw [h.row t ht]; simp
theorem Rep.ne_rb {T : Tab} {C : List Stm} {L : List Ntd} {m : Heap} (h : Rep T C L m) {s : Stm} (hs : s ∈ C) : T.rb s.1 ≠ T.tb ∧ T.rb s.1 ≠ T.rm ∧ T.rb s.1 ≠ T.fm := by
  have h1 := h.row s hs
  obtain ⟨bs, cl, e1⟩ := h.rows
  obtain ⟨bs2, cl2, e2, _⟩ := h.frs
  have h3 := h.tab
  refine ⟨fun e => ?_, fun e => ?_, fun e => ?_⟩
  · rw [e, h3] at h1; simp [rowA, rowB] at h1
  · rw [e, e1] at h1; simp [rowA] at h1
  · rw [e, e2] at h1; simp [rowA] at h1
theorem Rep.ne_tb {T : Tab} {C : List Stm} {L : List Ntd} {m : Heap} (h : Rep T C L m) : T.tb ≠ T.rm ∧ T.tb ≠ T.fm := by
  have h1 := h.tab
  obtain ⟨bs, cl, e1⟩ := h.rows
  obtain ⟨bs2, cl2, e2, _⟩ := h.frs
  refine ⟨fun e => ?_, fun e => ?_⟩
  · rw [e, e1] at h1; simp [rowB] at h1
  · rw [e, e2] at h1; simp [rowB] at h1
theorem Rep.v_out {T : Tab} {C : List Stm} {L : List Ntd} {m : Heap} (h : Rep T C L m) {b : Nat} (hb : bOf T.v = some b) : ¬ T.own C b := by
  rintro (rfl | rfl | rfl | ⟨s, hs, rfl⟩)
  · exact (h.sep _ hb).1 rfl
  · obtain ⟨bs, cl, e⟩ := h.rows
    rcases h.str with ⟨e1, _⟩ | ⟨b', blk, hb', pre, post, N, cap, e1, e2, _⟩
    · rw [e1] at hb; cases hb
    · rw [e1] at hb; simp only [bOf, Option.some.injEq] at hb; rw [hb, e, e2] at hb'; cases hb'
  · obtain ⟨bs, cl, e, _⟩ := h.frs
    rcases h.str with ⟨e1, _⟩ | ⟨b', blk, hb', pre, post, N, cap, e1, e2, _⟩
    · rw [e1] at hb; cases hb
    · rw [e1] at hb; simp only [bOf, Option.some.injEq] at hb; rw [hb, e, e2] at hb'; cases hb'
  · exact (h.sep _ hb).2 s hs rfl
theorem encSc_flat (C : List Stm) : (C.flatMap encSc).all AVal.flat = true := by
  induction C with
  | nil => rfl
  | cons s t ih => rw [List.flatMap_cons, List.all_append, ih]; rfl
set_option maxHeartbeats 1000000 in
theorem clone_spec (G : Nat → AVal) (C : List Stm) (hC : C.length ≤ 1000000) (v : AVal) (m : Heap) (hs : SlM encSc 7 C v m) (K : AVal → Heap → Prop)
    (hK : ∀ v' m', SlM encSc 7 C v' m' → Sub m m' → (∀ c, bOf v' = some c → m c = none) → K v' m') : CallWP Tryz.prog G 17 [v] m K := by
  have HK := Hid.mk (And.intro hK (And.intro hs hC))
  have hf := hs.slv
  clear hK hC
  rcases hf with ⟨rfl, rfl⟩ | ⟨b, o, cap, rfl⟩
  · clear hs
    refine callWP_body Tryz.func17 rfl (N := 8) rfl (rs := [.tmp 2]) rfl en_17 (of_decide_eq_true rfl) ?_
    repeat' (first | exact tf0 ‹_› | exact tf1 ‹_› | exact False.elim ‹_› | (with_reducible refine Al.intro ?_; intro pb hpb; (try simp only [hupd_none'] at hpb); (repeat rcases hpb with ⟨⟨hpx, hpy⟩, hpb⟩)) | with_reducible refine need ?_ | ((with_reducible first | apply frk0 | apply frk1 | apply frk2 | apply frk3 | apply frk4 | apply frk5 | apply frk6 | apply frk7 | apply frk8 | apply frk9) <;> intro h <;> try (exfalso; omega)) | with_reducible refine quiet_and ?_ ?_ | with_reducible refine awp_drawnA mixed (by decide +kernel) ?_ | ((fail_if_success with_reducible refine stp ?_); simp -implicitDefEqProofs only [go_sem, Nat.reduceEqDiff, Nat.reduceAdd, Nat.reduceLT, Nat.reduceMul, Nat.reduceSub, Nat.reduceLeDiff, ↓reduceIte, reduceCtorEq, ↓String.reduceEq, String.reduceNe, Int.reduceToNat, Int.reduceLT, Int.reduceLE, Int.reduceGT, Int.reduceGE, Int.reduceEq, Int.reduceNe, Int.reduceBEq, Int.reduceBNe, Int.reduceAdd, Int.reduceSub, Int.reduceMul, Int.reduceNeg,  *]))
    exact ⟨_, Sub.refl _, HK.out.1 _ _ (.inl ⟨rfl, rfl⟩) (Sub.refl _) (fun c hc => by cases hc)⟩
  · clear hs
    refine callWP_body Tryz.func17 rfl (N := 8) rfl (rs := [.tmp 2]) rfl en_17 (of_decide_eq_true rfl) ?_
    repeat' (first | exact tf0 ‹_› | exact tf1 ‹_› | exact False.elim ‹_› | (with_reducible refine Al.intro ?_; intro pb hpb; (try simp only [hupd_none'] at hpb); (repeat rcases hpb with ⟨⟨hpx, hpy⟩, hpb⟩)) | with_reducible refine need ?_ | ((with_reducible first | apply frk0 | apply frk1 | apply frk2 | apply frk3 | apply frk4 | apply frk5 | apply frk6 | apply frk7 | apply frk8 | apply frk9) <;> intro h <;> try (exfalso; omega)) | with_reducible refine quiet_and ?_ ?_ | with_reducible refine awp_drawnA mixed (by decide +kernel) ?_ | ((fail_if_success with_reducible refine stp ?_); simp -implicitDefEqProofs only [go_sem, Nat.reduceEqDiff, Nat.reduceAdd, Nat.reduceLT, Nat.reduceMul, Nat.reduceSub, Nat.reduceLeDiff, ↓reduceIte, reduceCtorEq, ↓String.reduceEq, String.reduceNe, Int.reduceToNat, Int.reduceLT, Int.reduceLE, Int.reduceGT, Int.reduceGE, Int.reduceEq, Int.reduceNe, Int.reduceBEq, Int.reduceBNe, Int.reduceAdd, Int.reduceSub, Int.reduceMul, Int.reduceNeg,  *]))
    refine appV (enc := encSc) (sz := 7) (C := []) (E := C) Tryz.underlying22 tk_48 eb_48 zl_48 (by decide) (by rw [Tryz.underlying22]; rfl) (by unfold isInt; rw [Tryz.underlying22]) encSc_len (encSc_flat C) (HK.out.2.1.fresh hpb) (.inr ⟨pb, .cells [] 0, (by rw [hupd_at, if_pos rfl]), [], [], 0, 0, rfl, rfl, Nat.le_refl _, Nat.le_refl _⟩) (by have := HK.out.2.2; simp only [List.length_nil, Nat.zero_add]; omega) (fun v2 m2 h1 h2 => ?_)
    obtain ⟨k1, k2⟩ := h2.sub (mb := m) ((Sub.refl _).fresh hpb) (fun c hc => by simp only [bOf, Option.some.injEq] at hc; subst hc; exact hpb)
    have HZ := Hid.mk (HK.out.1 v2 m2 h1 k1 k2)
    clear h1 h2 k1 k2
    repeat' (first | exact tf0 ‹_› | exact tf1 ‹_› | exact False.elim ‹_› | (with_reducible refine Al.intro ?_; intro pb hpb; (try simp only [hupd_none'] at hpb); (repeat rcases hpb with ⟨⟨hpx, hpy⟩, hpb⟩)) | with_reducible refine need ?_ | ((with_reducible first | apply frk0 | apply frk1 | apply frk2 | apply frk3 | apply frk4 | apply frk5 | apply frk6 | apply frk7 | apply frk8 | apply frk9) <;> intro h <;> try (exfalso; omega)) | with_reducible refine quiet_and ?_ ?_ | with_reducible refine awp_drawnA mixed (by decide +kernel) ?_ | ((fail_if_success with_reducible refine stp ?_); simp -implicitDefEqProofs only [go_sem, Nat.reduceEqDiff, Nat.reduceAdd, Nat.reduceLT, Nat.reduceMul, Nat.reduceSub, Nat.reduceLeDiff, ↓reduceIte, reduceCtorEq, ↓String.reduceEq, String.reduceNe, Int.reduceToNat, Int.reduceLT, Int.reduceLE, Int.reduceGT, Int.reduceGE, Int.reduceEq, Int.reduceNe, Int.reduceBEq, Int.reduceBNe, Int.reduceAdd, Int.reduceSub, Int.reduceMul, Int.reduceNeg,  *]))
    exact ⟨_, Sub.refl _, HZ.out⟩
end Go.Proofs.YtdckcophbmnjjaaGreatDoor
namespace Go.Proofs.YtdckcophbmnjjaaGreatDoor
open Go Go.Proofs.YtdckcophbmnjjaaGreatDoor.Ab
open Go.Proofs (Tryz.prog)
set_option maxRecDepth 100000
theorem rows_fresh {C : List Stm} {n : Int} (hr : rightC C n) {i : Nat} (hi : i < C.length) : ∀ s ∈ C.take i, s.1 ≠ (C.getD i default).1 := by
  have h := ((rightC_iff C n).1 hr).2.2.2.1
  intro s hs e
  obtain ⟨j, hj, rfl⟩ := List.getElem_of_mem hs
  rw [List.length_take] at hj
  rw [List.getElem_take, getD_get hi] at e
  exact List.pairwise_iff_getElem.1 h j i (by omega) hi (by omega) e
theorem kidx_no {es : List (Int × AVal)} {a : Int} (h : ∀ e ∈ es, e.1 ≠ a) : kidx es a = none := by
  unfold kidx
  rw [List.findIdx?_eq_none_iff]
  intro e he
  simpa using h e he
/-- The rows' places, one more. -/
def rbPut (rb : Int → Nat) (id : Int) (b : Nat) : Int → Nat := fun x => if x = id then b else rb x
theorem rows_put {C : List Stm} {n : Int} (hr : rightC C n) {i : Nat} (hi : i < C.length) (rb : Int → Nat) (b : Nat) (bs : List Nat) (cl : Nat) :
    mput (rowsE (C.take i) rb) bs cl (C.getD i default).1 (.ptr b 0) = .map (rowsE (C.take (i + 1)) (rbPut rb (C.getD i default).1 b)) (bs ++ [cl]) (cl + 1) := by
  have hf := rows_fresh hr hi
  unfold mput
  rw [kidx_no (fun e he => by obtain ⟨s, hs, rfl⟩ := List.mem_map.1 he; exact hf s hs)]
  simp only
  congr 1
  rw [take_one C i hi]
  unfold rowsE
  rw [List.map_append]
  congr 1
  · refine List.map_congr_left fun s hs => ?_
    unfold rbPut; rw [if_neg (hf s hs)]
  · simp [rbPut]
abbrev zeroR : RowT := (0, (0, 0, 0, 0, 0, 0), 0, 0, false)
theorem row_nil (p : Ntd → Bool) : rowOf p [] = zeroR := rfl
theorem seenB {m : Heap} {a b : Nat} {y : ABlk} (ha : m a = some y) (hb : m b = none) : a ≠ b := fun e => by rw [e, hb] at ha; cases ha
set_option maxHeartbeats 4000000 in
theorem newE_spec (G : Nat → AVal) (hG : DivOK G) (C : List Stm) (hl : C.length < 9223372036854775808) (v : AVal) (m : Heap) (hs : RdS C v m) (K : AVal → Heap → Prop)
    (hcl : C.length ≤ 64 → ∀ K : AVal → Heap → Prop, (∀ v' m', SlM encSc 7 C v' m' → Sub m m' → (∀ c, bOf v' = some c → m c = none) → K v' m') → CallWP Tryz.prog G 17 [v] m K)
    (hbad : ∀ e, e ≠ 0 → e = chkE C 1 → K (.tuple [.nilp, .int .i64 e]) m)
    (hok : ∀ (T : Tab) m', rightC C 1 → Rep T C [] m' → Sub m m' → (∀ c, T.own C c → m c = none) → (∀ c, bOf T.v = some c → m c = none) → K (.tuple [.ptr T.tb 0, .int .i64 0]) m') : CallWP Tryz.prog G 5 [v] m K := by
  have HH := Hid.mk (And.intro hcl (And.intro hbad (And.intro hok (And.intro hs hG))))
  obtain ⟨LL, hLL⟩ : ∃ L, L = C.length := ⟨_, rfl⟩
  have ll : (C.map encS).length = LL := by rw [List.length_map]; exact hLL.symm
  obtain ⟨b, pre, post, N, cap, hw⟩ := hs.ways hLL
  have HL := Hid.mk (And.intro hLL hl)
  clear hs hcl hbad hok hG hl hLL
  rcases hw with ⟨hv, hz⟩ | ⟨hv, hb⟩ | hv
  all_goals (
    refine callWP_body Tryz.func5 rfl (N := 52) rfl (rs := [.tmp 2, .tmp 3]) rfl en_5 (of_decide_eq_true rfl) ?_
    repeat' (first | exact tf0 ‹_› | exact tf1 ‹_› | exact False.elim ‹_› | (with_reducible refine Al.intro ?_; intro pb hpb; (try simp only [hupd_none'] at hpb); (repeat rcases hpb with ⟨⟨hpx, hpy⟩, hpb⟩)) | with_reducible refine need ?_ | ((with_reducible first | apply frk0 | apply frk1 | apply frk2 | apply frk3 | apply frk4 | apply frk5 | apply frk6 | apply frk7 | apply frk8 | apply frk9) <;> intro h <;> try (exfalso; omega)) | with_reducible refine quiet_and ?_ ?_ | with_reducible refine awp_drawnA mixed (by decide +kernel) ?_ | ((fail_if_success with_reducible refine stp ?_); simp -implicitDefEqProofs only [go_sem, Nat.reduceEqDiff, Nat.reduceAdd, Nat.reduceLT, Nat.reduceMul, Nat.reduceSub, Nat.reduceLeDiff, ↓reduceIte, reduceCtorEq, ↓String.reduceEq, String.reduceNe, Int.reduceToNat, Int.reduceLT, Int.reduceLE, Int.reduceGT, Int.reduceGE, Int.reduceEq, Int.reduceNe, Int.reduceBEq, Int.reduceBNe, Int.reduceAdd, Int.reduceSub, Int.reduceMul, Int.reduceNeg,  *]))
    refine pcheckE_spec G C HL.out.2 1 _ _ (by rw [← hv]; exact HH.out.2.2.2.1) _ (fun k e he => ?_)
    have HE := Hid.mk he
    clear he
    by_cases h0 : e = 0
    · have hr := (chkE_iff C 1).1 (HE.out.symm.trans h0)
      have HR := Hid.mk hr
      have l64 : LL ≤ 64 := by have := hr.1; have := HL.out.1; omega
      subst h0
      clear hr
      repeat' (first | exact tf0 ‹_› | exact tf1 ‹_› | exact False.elim ‹_› | (with_reducible refine Al.intro ?_; intro pb hpb; (try simp only [hupd_none'] at hpb); (repeat rcases hpb with ⟨⟨hpx, hpy⟩, hpb⟩)) | with_reducible refine need ?_ | ((with_reducible first | apply frk0 | apply frk1 | apply frk2 | apply frk3 | apply frk4 | apply frk5 | apply frk6 | apply frk7 | apply frk8 | apply frk9) <;> intro h <;> try (exfalso; omega)) | with_reducible refine quiet_and ?_ ?_ | with_reducible refine awp_drawnA mixed (by decide +kernel) ?_ | ((fail_if_success with_reducible refine stp ?_); simp -implicitDefEqProofs only [go_sem, Nat.reduceEqDiff, Nat.reduceAdd, Nat.reduceLT, Nat.reduceMul, Nat.reduceSub, Nat.reduceLeDiff, ↓reduceIte, reduceCtorEq, ↓String.reduceEq, String.reduceNe, Int.reduceToNat, Int.reduceLT, Int.reduceLE, Int.reduceGT, Int.reduceGE, Int.reduceEq, Int.reduceNe, Int.reduceBEq, Int.reduceBNe, Int.reduceAdd, Int.reduceSub, Int.reduceMul, Int.reduceNeg,  *]))
      rw [← hv]
      refine HH.out.1 (by have := HL.out.1; omega) _ (fun v2 m1 a1 a2 a3 => ?_)
      have HV := Hid.mk (And.intro a1 (And.intro a2 a3))
      have hf2 := a1.slv
      clear a1 a2 a3
      rcases hf2 with ⟨hv2, -⟩ | ⟨b2, o2, c2, hv2⟩
      all_goals (
        repeat' (first | exact tf0 ‹_› | exact tf1 ‹_› | exact False.elim ‹_› | (with_reducible refine Al.intro ?_; intro pb hpb; (try simp only [hupd_none'] at hpb); (repeat rcases hpb with ⟨⟨hpx, hpy⟩, hpb⟩)) | with_reducible refine need ?_ | ((with_reducible first | apply frk0 | apply frk1 | apply frk2 | apply frk3 | apply frk4 | apply frk5 | apply frk6 | apply frk7 | apply frk8 | apply frk9) <;> intro h <;> try (exfalso; omega)) | with_reducible refine quiet_and ?_ ?_ | with_reducible refine awp_drawnA mixed (by decide +kernel) ?_ | ((fail_if_success with_reducible refine stp ?_); simp -implicitDefEqProofs only [go_sem, Nat.reduceEqDiff, Nat.reduceAdd, Nat.reduceLT, Nat.reduceMul, Nat.reduceSub, Nat.reduceLeDiff, ↓reduceIte, reduceCtorEq, ↓String.reduceEq, String.reduceNe, Int.reduceToNat, Int.reduceLT, Int.reduceLE, Int.reduceGT, Int.reduceGE, Int.reduceEq, Int.reduceNe, Int.reduceBEq, Int.reduceBNe, Int.reduceAdd, Int.reduceSub, Int.reduceMul, Int.reduceNeg,  *]))
        rename_i rm erm fm efm nfr nrf ntf nft
        obtain ⟨tb, etb⟩ : ∃ p, p = pb := ⟨_, rfl⟩
        subst etb
        have hpx_tb := hpx
        have hpy_tb := hpy
        clear hpx hpy
        have HF := Hid.mk (And.intro erm (And.intro efm hpb))
        have gm := HV.out.2.1.gone erm
        have gf := HV.out.2.1.gone efm
        have gt := HV.out.2.1.gone hpb
        have HG := Hid.mk (And.intro gm (And.intro gf gt))
        clear erm efm hpb gm gf gt
        refine awp_loopP 0 (fun ts m2 => ts 6 = .ptr tb 0 ∧ Hid (∃ T : Tab, T.tb = tb ∧ Rep T C [] m2 ∧ Sub m m2 ∧ (∀ c, T.own C c → m c = none) ∧ ∀ c, bOf T.v = some c → m c = none))
          (fun k ts m2 => ∃ (i : Nat) (rb : Int → Nat) (bs : List Nat) (cl : Nat), Hid (k = LL - i ∧ i ≤ LL ∧ Sub m1 m2 ∧ (∀ s ∈ C.take i, m1 (rb s.1) = none) ∧ (∀ s ∈ C.take i, m2 (rb s.1) = some (rowA s.1 zeroR)) ∧ (∀ s ∈ C.take i, ∀ t ∈ C.take i, rb s.1 = rb t.1 → s.1 = t.1) ∧ m2 fm = some (.map [] [] 0)) ∧ ts 6 = .ptr tb 0 ∧ ts 29 = v ∧ ts 30 = .int .i64 (LL : Nat) ∧ ts 31 = .int .i64 (i : Nat) ∧ m2 tb = some (.cells [v2, .map rm, .int .i64 (-1), .int .i64 0, .int .i64 0, .int .i64 0, .int .i64 0, .int .i64 0, .int .i64 0, .int .i64 0, .int .i64 0, .int .i64 0, .bool false, .map fm] 14) ∧ m2 rm = some (.map (rowsE (C.take i) rb) bs cl)) LL
          ⟨0, fun _ => 0, [], 0, .mk ⟨rfl, Nat.zero_le _, ?_, (fun s hs => by simp at hs), (fun s hs => by simp at hs), (fun s hs => by simp at hs), ?_⟩, ttt, (by first | (simp only [upd, put, Nat.reduceEqDiff, ↓reduceIte, hv]; done) | (simp [upd, put, hv]; done) | rfl | (simp [upd, put, hv]; rfl)), (by first | (simp only [upd, put, Nat.reduceEqDiff, ↓reduceIte, hv, ll]; done) | (simp [upd, put, hv, ll]; done) | (simp [upd, put, hv]; omega)), ttt, ?_, ?_⟩ ?_ ?_
        · exact (((Sub.refl _).fresh HF.out.1).fresh HF.out.2.1).fresh HF.out.2.2
        · rw [hupd_ne nft, hupd_at, if_pos rfl]
        · rw [hupd_at, if_pos rfl, hv2]
        · rw [hupd_ne hpy_tb, hupd_ne nrf, hupd_at, if_pos rfl]; rfl
        · rintro k ts m2 ⟨i, rb, bs, cl, H, t6, t29, t30, t31, ktb, krm⟩
          by_cases hi : i < LL
          · have lt : (i : Int) < (LL : Int) := by omega
            have hiC : i < C.length := by have := HL.out.1; omega
            obtain ⟨x, hx⟩ : ∃ x, C.getD i default = x := ⟨_, rfl⟩
            have g0 := sm_at C pre post i hiC x hx
            have g2 := sm_lst C i hiC x hx
            have l1 := sm_len C pre post i hiC
            have w1 : IntKind.i64.wrap ((i : Int) + 1) = ((i + 1 : Nat) : Int) := by rw [wrap_i64 (by omega) (by omega)]; omega
            have hput := fun q => rows_put HR.out hiC rb q bs cl
            have hfr := rows_fresh HR.out hiC
            have htk := take_one C i hiC
            rw [hx] at hput hfr htk
            have HX := Hid.mk (And.intro hfr htk)
            have frt : ∀ c, m2 c = none → (tb = c) = False := fun c h => by rw [eq_iff_iff, iff_false]; exact seenB ktb h
            have frr : ∀ c, m2 c = none → (rm = c) = False := fun c h => by rw [eq_iff_iff, iff_false]; exact seenB krm h
            try (have hb2 := H.out.2.2.1 _ _ (HV.out.2.1 _ _ hb))
            try (have frb : ∀ c, m2 c = none → (b = c) = False := fun c h => by rw [eq_iff_iff, iff_false]; exact seenB hb2 h)
            clear hx hiC hfr htk
            repeat' (first | exact tf0 ‹_› | exact tf1 ‹_› | exact False.elim ‹_› | (with_reducible refine Al.intro ?_; intro pb hpb; (try simp only [hupd_none'] at hpb); (repeat rcases hpb with ⟨⟨hpx, hpy⟩, hpb⟩)) | with_reducible refine need ?_ | ((with_reducible first | apply frk0 | apply frk1 | apply frk2 | apply frk3 | apply frk4 | apply frk5 | apply frk6 | apply frk7 | apply frk8 | apply frk9) <;> intro h <;> try (exfalso; omega)) | with_reducible refine quiet_and ?_ ?_ | with_reducible refine awp_drawnA mixed (by decide +kernel) ?_ | ((fail_if_success with_reducible refine stp ?_); simp -implicitDefEqProofs only [go_sem, Nat.reduceEqDiff, Nat.reduceAdd, Nat.reduceLT, Nat.reduceMul, Nat.reduceSub, Nat.reduceLeDiff, ↓reduceIte, reduceCtorEq, ↓String.reduceEq, String.reduceNe, Int.reduceToNat, Int.reduceLT, Int.reduceLE, Int.reduceGT, Int.reduceGE, Int.reduceEq, Int.reduceNe, Int.reduceBEq, Int.reduceBNe, Int.reduceAdd, Int.reduceSub, Int.reduceMul, Int.reduceNeg,  encSc, *]))
            all_goals (
              rename_i p8 ep8
              have hin : ∀ s ∈ C.take (i + 1), s ∈ C.take i ∨ s = x := fun s hs => by rw [HX.out.2] at hs; simpa using hs
              have hrb : ∀ s ∈ C.take i, rbPut rb x.1 pb s.1 = rb s.1 := fun s hs => by unfold rbPut; rw [if_neg (HX.out.1 s hs)]
              have hrx : rbPut rb x.1 pb x.1 = pb := by unfold rbPut; rw [if_pos rfl]
              have nrb : ∀ s ∈ C.take i, rb s.1 ≠ rm ∧ rb s.1 ≠ pb ∧ rb s.1 ≠ p8 := fun s hs => ⟨fun e => (by have h := H.out.2.2.2.2.1 s hs; rw [e, krm] at h; simp [rowA] at h), seenB (H.out.2.2.2.2.1 s hs) hpb, seenB (H.out.2.2.2.2.1 s hs) ep8⟩
              have nrm := seenB krm hpb
              refine Again.intro ⟨LL - (i + 1), by have := H.out.1; omega, _, Sub.refl _, i + 1, rbPut rb x.1 pb, _, _, .mk ⟨rfl, by omega, fun c y hc => ?_, fun s hs => ?_, fun s hs => ?_, fun s hs t ht => ?_, ?_⟩, (by first | (simp only [upd, put, Nat.reduceEqDiff, ↓reduceIte, t6]; done) | (simp [upd, put, t6]; done) | rfl | (simp [upd, put, t6]; rfl)), (by first | (simp only [upd, put, Nat.reduceEqDiff, ↓reduceIte, t29, hv]; done) | (simp [upd, put, t29, hv]; done) | rfl | (simp [upd, put, t29, hv]; rfl)), (by first | (simp only [upd, put, Nat.reduceEqDiff, ↓reduceIte, t30]; done) | (simp [upd, put, t30]; done) | rfl | (simp [upd, put, t30]; rfl)), ttt, ?_, by rw [hupd_at, if_pos rfl]⟩
              · have h2 := H.out.2.2.1 c y hc
                rw [hupd_ne (fun e => by rw [e, HF.out.1] at hc; cases hc), hupd_ne (seenB h2 hpb), hupd_ne (seenB h2 ep8)]; exact h2
              · rcases hin s hs with h | rfl
                · rw [hrb s h]; exact H.out.2.2.2.1 s h
                · rw [hrx]; exact H.out.2.2.1.gone hpb
              · rcases hin s hs with h | rfl
                · rw [hrb s h, hupd_ne (nrb s h).1, hupd_ne (nrb s h).2.1, hupd_ne (nrb s h).2.2]; exact H.out.2.2.2.2.1 s h
                · rw [hrx, hupd_ne (Ne.symm nrm), hupd_at, if_pos rfl]; rfl
              · rcases hin s hs with h | rfl
                · rw [hrb s h]
                  rcases hin t ht with h2 | rfl
                  · rw [hrb t h2]; exact H.out.2.2.2.2.2.1 s h t h2
                  · rw [hrx]; exact fun e => absurd e (nrb s h).2.1
                · rw [hrx]
                  rcases hin t ht with h2 | rfl
                  · rw [hrb t h2]; exact fun e => absurd e.symm (nrb t h2).2.1
                  · exact fun _ => rfl
              · rw [hupd_ne nfr, hupd_ne (seenB H.out.2.2.2.2.2.2 hpb), hupd_ne (seenB H.out.2.2.2.2.2.2 ep8)]; exact H.out.2.2.2.2.2.2
              · rw [hupd_ne hpx_tb, hupd_ne (seenB ktb hpb), hupd_ne (seenB ktb ep8)]; exact ktb)
          · have lt : ¬ (i : Int) < (LL : Int) := by omega
            have hiC : C.take i = C := List.take_of_length_le (by have := HL.out.1; omega)
            have HX := Hid.mk (And.intro hiC (And.intro ktb krm))
            clear hiC
            repeat' (first | exact tf0 ‹_› | exact tf1 ‹_› | exact False.elim ‹_› | (with_reducible refine Al.intro ?_; intro pb hpb; (try simp only [hupd_none'] at hpb); (repeat rcases hpb with ⟨⟨hpx, hpy⟩, hpb⟩)) | with_reducible refine need ?_ | ((with_reducible first | apply frk0 | apply frk1 | apply frk2 | apply frk3 | apply frk4 | apply frk5 | apply frk6 | apply frk7 | apply frk8 | apply frk9) <;> intro h <;> try (exfalso; omega)) | with_reducible refine quiet_and ?_ ?_ | with_reducible refine awp_drawnA mixed (by decide +kernel) ?_ | ((fail_if_success with_reducible refine stp ?_); simp -implicitDefEqProofs only [go_sem, Nat.reduceEqDiff, Nat.reduceAdd, Nat.reduceLT, Nat.reduceMul, Nat.reduceSub, Nat.reduceLeDiff, ↓reduceIte, reduceCtorEq, ↓String.reduceEq, String.reduceNe, Int.reduceToNat, Int.reduceLT, Int.reduceLE, Int.reduceGT, Int.reduceGE, Int.reduceEq, Int.reduceNe, Int.reduceBEq, Int.reduceBNe, Int.reduceAdd, Int.reduceSub, Int.reduceMul, Int.reduceNeg,  *]))
            refine Again.intro ⟨(by first | (simp only [upd, put, Nat.reduceEqDiff, ↓reduceIte, t6]; done) | (simp [upd, put, t6]; done) | rfl | (simp [upd, put, t6]; rfl)), .mk ⟨⟨tb, v2, rm, fm, rb⟩, rfl, ⟨?_, ?_, ?_, ?_, ?_, ?_, ?_, nrf⟩, ?_, ?_, ?_⟩⟩
            · exact HX.out.2.1
            · exact HV.out.1.into H.out.2.2.1
            · exact ⟨bs, cl, by have h := HX.out.2.2; rw [HX.out.1] at h; exact h⟩
            · intro s hs; exact H.out.2.2.2.2.1 s (by rw [HX.out.1]; exact hs)
            · exact ⟨[], 0, H.out.2.2.2.2.2.2, List.nodup_nil, (fun x hx => by cases hx), rfl⟩
            · intro s hs t ht; exact H.out.2.2.2.2.2.1 s (by rw [HX.out.1]; exact hs) t (by rw [HX.out.1]; exact ht)
            · intro q hq
              have hne := slm_some HV.out.1 hq
              exact ⟨fun e => hne (by rw [e]; exact HF.out.2.2), fun s hs e => hne (by rw [e]; exact H.out.2.2.2.1 s (by rw [HX.out.1]; exact hs))⟩
            · exact subTrans HV.out.2.1 H.out.2.2.1
            · rintro c (rfl | rfl | rfl | ⟨s, hs, rfl⟩)
              · exact HG.out.2.2
              · exact HG.out.1
              · exact HG.out.2.1
              · exact HV.out.2.1.gone (H.out.2.2.2.1 s (by rw [HX.out.1]; exact hs))
            · exact HV.out.2.2
        · rintro ts m2 ⟨t6, HX⟩
          obtain ⟨T, hT, hRep, hsub, hown, hv3⟩ := HX.out
          subst hT
          have HZ := Hid.mk (HH.out.2.2.1 T m2 HR.out hRep hsub hown hv3)
          clear hRep hsub hown hv3
          repeat' (first | exact tf0 ‹_› | exact tf1 ‹_› | exact False.elim ‹_› | (with_reducible refine Al.intro ?_; intro pb hpb; (try simp only [hupd_none'] at hpb); (repeat rcases hpb with ⟨⟨hpx, hpy⟩, hpb⟩)) | with_reducible refine need ?_ | ((with_reducible first | apply frk0 | apply frk1 | apply frk2 | apply frk3 | apply frk4 | apply frk5 | apply frk6 | apply frk7 | apply frk8 | apply frk9) <;> intro h <;> try (exfalso; omega)) | with_reducible refine quiet_and ?_ ?_ | with_reducible refine awp_drawnA mixed (by decide +kernel) ?_ | ((fail_if_success with_reducible refine stp ?_); simp -implicitDefEqProofs only [go_sem, Nat.reduceEqDiff, Nat.reduceAdd, Nat.reduceLT, Nat.reduceMul, Nat.reduceSub, Nat.reduceLeDiff, ↓reduceIte, reduceCtorEq, ↓String.reduceEq, String.reduceNe, Int.reduceToNat, Int.reduceLT, Int.reduceLE, Int.reduceGT, Int.reduceGE, Int.reduceEq, Int.reduceNe, Int.reduceBEq, Int.reduceBNe, Int.reduceAdd, Int.reduceSub, Int.reduceMul, Int.reduceNeg,  *]))
          exact ⟨_, Sub.refl _, HZ.out⟩)
    · have hb0 : (e != 0) = true := by simpa using h0
      have HX := Hid.mk (HH.out.2.1 e h0 HE.out)
      clear h0
      repeat' (first | exact tf0 ‹_› | exact tf1 ‹_› | exact False.elim ‹_› | (with_reducible refine Al.intro ?_; intro pb hpb; (try simp only [hupd_none'] at hpb); (repeat rcases hpb with ⟨⟨hpx, hpy⟩, hpb⟩)) | with_reducible refine need ?_ | ((with_reducible first | apply frk0 | apply frk1 | apply frk2 | apply frk3 | apply frk4 | apply frk5 | apply frk6 | apply frk7 | apply frk8 | apply frk9) <;> intro h <;> try (exfalso; omega)) | with_reducible refine quiet_and ?_ ?_ | with_reducible refine awp_drawnA mixed (by decide +kernel) ?_ | ((fail_if_success with_reducible refine stp ?_); simp -implicitDefEqProofs only [go_sem, Nat.reduceEqDiff, Nat.reduceAdd, Nat.reduceLT, Nat.reduceMul, Nat.reduceSub, Nat.reduceLeDiff, ↓reduceIte, reduceCtorEq, ↓String.reduceEq, String.reduceNe, Int.reduceToNat, Int.reduceLT, Int.reduceLE, Int.reduceGT, Int.reduceGE, Int.reduceEq, Int.reduceNe, Int.reduceBEq, Int.reduceBNe, Int.reduceAdd, Int.reduceSub, Int.reduceMul, Int.reduceNeg,  *]))
      exact ⟨_, Sub.refl _, HX.out⟩)
theorem new_spec (G : Nat → AVal) (hG : DivOK G) (C : List Stm) (hl : C.length < 9223372036854775808) (v : AVal) (m : Heap) (hs : RdS C v m) (K : AVal → Heap → Prop)
    (hcl : C.length ≤ 64 → ∀ K : AVal → Heap → Prop, (∀ v' m', SlM encSc 7 C v' m' → Sub m m' → (∀ c, bOf v' = some c → m c = none) → K v' m') → CallWP Tryz.prog G 17 [v] m K)
    (hbad : ∀ e, e ≠ 0 → ¬ rightC C 1 → K (.tuple [.nilp, .int .i64 e]) m)
    (hok : ∀ (T : Tab) m', rightC C 1 → Rep T C [] m' → Sub m m' → (∀ c, T.own C c → m c = none) → (∀ c, bOf T.v = some c → m c = none) → K (.tuple [.ptr T.tb 0, .int .i64 0]) m') : CallWP Tryz.prog G 5 [v] m K :=
  newE_spec G hG C hl v m hs K hcl (fun e h0 he => hbad e h0 (fun h => h0 (he.trans ((chkE_iff C 1).2 h)))) hok
end Go.Proofs.YtdckcophbmnjjaaGreatDoor
