/- What is open still. What is asked of a table whatever comes: plain facts; nobody's table. -/
import Derived.Test.YtdckcophbmnjjaaGreatDoorW12
import Derived.Test.YtdckcophbmnjjaaGreatDoorSh
import Derived.Test.YtdckcophbmnjjaaGreatDoorLgc
set_option linter.all false
namespace Go.Proofs.YtdckcophbmnjjaaGreatDoor
open Go Go.Proofs.YtdckcophbmnjjaaGreatDoor.Ab
open Go.Proofs (Tryz.prog)
set_option maxRecDepth 100000
theorem nodup_le : ∀ (n : Nat) (ds : List Nat), ds.Nodup → (∀ i ∈ ds, i < n) → ds.length ≤ n
  | 0, ds, _, h => by
    cases ds with
    | nil => simp
    | cons a t => exact absurd (h a (by simp)) (by omega)
  | n + 1, ds, hn, h => by
    by_cases hm : n ∈ ds
    · have := nodup_le n (ds.erase n) (hn.erase n) (fun i hi => by
        have h1 := h i (List.mem_of_mem_erase hi)
        have h2 : i ≠ n := fun e => by rw [e] at hi; exact (List.Nodup.not_mem_erase hn) hi
        omega)
      rw [List.length_erase_of_mem hm] at this
      omega
    · exact Nat.le_succ_of_le (nodup_le n ds hn (fun i hi => by
        have h1 := h i hi
        have h2 : i ≠ n := fun e => hm (e ▸ hi)
        omega))
theorem nodup_at {bs : List Nat} (hn : bs.Nodup) {i j : Nat} (hi : i < bs.length) (hj : j < bs.length) (h : bs.getD i 0 = bs.getD j 0) : i = j := by
  simp only [List.getD_eq_getElem?_getD, List.getElem?_eq_getElem hi, List.getElem?_eq_getElem hj, Option.getD_some] at h
  have hp := List.pairwise_iff_getElem.1 hn
  rcases Nat.lt_trichotomy i j with g | g | g
  · exact absurd h (hp i j hi hj g)
  · exact g
  · exact absurd h.symm (hp j i hj hi g)
def srtI (C : List Int) : List Int := C.mergeSort fun x y => decide (x ≤ y)
theorem isort_spec (G : Nat → AVal) (C : List Int) (hl : C.length ≤ 1000000) (v : AVal) (m : Heap) (hs : SlM encN 1 C v m) (K : AVal → Heap → Prop)
    (hK : ∀ m', SlM encN 1 (srtI C) v m' → (∀ x, bOf v ≠ some x → m' x = m x) → K (.tuple []) m') : CallWP Tryz.prog G 50 [v] m K := by
  have hlen : (srtI C).length = C.length := List.length_mergeSort _
  rcases hs with ⟨rfl, rfl⟩ | ⟨b, blk, hb, pre, post, N, cap, rfl, rfl, hN, hc⟩
  · exact ints_nil en_50 (fun p c w => AnyG.slices_Sort_int_none Tryz.sortI p c w) m K (hK m (.inl ⟨rfl, by simp [srtI]⟩) fun _ _ => rfl)
  · rw [encN_map] at hb
    refine ints_wp en_50 (fun blk off cap zs w h1 h2 h3 => AnyG.slices_Sort_int Tryz.sortI blk off cap zs w h1 h2 h3) C pre post N b cap m K hb (by omega) ?_
    rw [← hlen] at hK
    refine hK _ (.inr ⟨b, _, by rw [hupd_at, if_pos rfl], pre, post, N, cap, rfl, by rw [encN_map]; rfl, hN, by rw [hlen]; exact hc⟩) (fun x hx => hupd_ne fun e => hx (by rw [e]; rfl))
theorem srt_mem (C : List Int) (x : Int) : x ∈ srtI C ↔ x ∈ C := List.mem_mergeSort
theorem srt_le (C : List Int) : (srtI C).Pairwise (· ≤ ·) := by
  have := List.pairwise_mergeSort (le := fun x y : Int => decide (x ≤ y)) (fun a b c h1 h2 => by simp only [decide_eq_true_eq] at *; omega) (fun a b => by simp only [Bool.or_eq_true, decide_eq_true_eq]; omega) C
  exact this.imp (fun h => by simpa using h)
theorem srt_lt {C : List Int} (h : C.Nodup) : (srtI C).Pairwise (· < ·) := by
  have h1 := srt_le C
  have h2 : (srtI C).Nodup := (List.mergeSort_perm C _).symm.nodup h
  exact (h1.and h2).imp (fun h => by have := h.1; have := h.2; omega)
theorem srt_perm {C D : List Int} (h : C.Perm D) : srtI C = srtI D :=
  List.Perm.eq_of_pairwise (le := (· ≤ ·)) (fun x y _ _ a b => Int.le_antisymm a b) (srt_le C) (srt_le D) ((List.mergeSort_perm C _).trans (h.trans (List.mergeSort_perm D _).symm))
/-- The tags of those that are open. -/
def opensL (L : List Ntd) : List Int := (L.filter fun x => decide (x.2.2.1 = 0)).map (·.1)
def opensD (L : List Ntd) (ds : List Nat) : List Int := (ds.filter fun i => decide ((L.getD i default).2.2.1 = 0)).map fun i => (L.getD i default).1
theorem opensD_step (L : List Ntd) (ds : List Nat) (i : Nat) : opensD L (ds ++ [i]) = opensD L ds ++ (if (L.getD i default).2.2.1 = 0 then [(L.getD i default).1] else []) := by
  unfold opensD
  rw [List.filter_append, List.map_append]
  congr 1
  split
  · rename_i h; rw [List.filter_cons_of_pos (by simpa using h)]; rfl
  · rename_i h; rw [List.filter_cons_of_neg (by simpa using h)]; rfl
theorem opensD_range : ∀ (L M : List Ntd), (opensD (M ++ L) ((List.range L.length).map (· + M.length))) = opensL L
  | [], M => rfl
  | a :: t, M => by
    have ih := opensD_range t (M ++ [a])
    rw [List.append_assoc] at ih
    have hz : (M ++ a :: t).getD M.length default = a := by simp [List.getD_eq_getElem?_getD]
    have er : (List.range (a :: t).length).map (· + M.length) = M.length :: (List.range t.length).map (· + (M ++ [a]).length) := by
      rw [List.length_cons, List.range_succ_eq_map, List.map_cons, List.map_map, Nat.zero_add]
      congr 1
      refine List.map_congr_left fun i _ => ?_
      simp only [Function.comp, List.length_append, List.length_singleton]; omega
    rw [er]
    unfold opensD opensL at *
    have ih' : List.map (fun i => ((M ++ a :: t).getD i default).1) (List.filter (fun i => decide (((M ++ a :: t).getD i default).2.2.1 = 0)) (List.map (fun x => x + (M ++ [a]).length) (List.range t.length))) = List.map (fun x => x.1) (List.filter (fun x => decide (x.2.2.1 = 0)) t) := ih
    by_cases h : a.2.2.1 = 0
    · rw [List.filter_cons_of_pos (by rw [hz]; simpa using h), List.map_cons, hz, ih', List.filter_cons_of_pos (by simpa using h)]; rfl
    · rw [List.filter_cons_of_neg (by rw [hz]; simpa using h), ih', List.filter_cons_of_neg (by simpa using h)]
theorem opens_perm (L : List Ntd) (ds : List Nat) (hn : ds.Nodup) (hall : ∀ i, i < L.length ↔ i ∈ ds) : (opensD L ds).Perm (opensL L) := by
  have h := opensD_range L []
  simp only [List.nil_append, List.length_nil, Nat.add_zero, List.map_id'] at h
  rw [← h]
  have hp : ds.Perm (List.range L.length) := (List.perm_ext_iff_of_nodup hn List.nodup_range).2 (fun a => by rw [List.mem_range]; exact (hall a).symm)
  unfold opensD
  exact (hp.filter _).map _
set_option maxHeartbeats 4000000 in
theorem open_spec (G : Nat → AVal) (T : Tab) (C : List Stm) (L : List Ntd) (hL : L.length ≤ 100000) (m : Heap) (hr : Rep T C L m) (K : AVal → Heap → Prop)
    (hK : ∀ v' m', SlM encN 1 (srtI (opensL L)) v' m' → Sub m m' → (∀ c, bOf v' = some c → m c = none) → K v' m') : CallWP Tryz.prog G 21 [.ptr T.tb 0] m K := by
  obtain ⟨tb, v, rm, fm, rb⟩ := T
  have ktb := hr.tab
  obtain ⟨bsF, clF, kfm, hbs⟩ := hr.frs
  simp only at ktb kfm
  generalize rowOf pAll L = r0 at *
  obtain ⟨tk, ⟨f0, f1, f2, f3, f4, f5⟩, wo, be, so⟩ := r0
  simp only [rowB, rcel, List.cons_append, List.nil_append] at ktb
  have HB := Hid.mk (And.intro hbs (And.intro hK hL))
  have hel : (frsE L).length = L.length := by simp [frsE]
  have HEL := Hid.mk hel
  clear hr hbs hK hL hel
  refine callWP_body Tryz.func21 rfl (N := 28) rfl (rs := [.tmp 2]) rfl en_21 (of_decide_eq_true rfl) ?_
  repeat' (first | exact tf0 ‹_› | exact tf1 ‹_› | exact False.elim ‹_› | (with_reducible refine Al.intro ?_; intro pb hpb; (try simp only [hupd_none'] at hpb); (repeat rcases hpb with ⟨⟨hpx, hpy⟩, hpb⟩)) | with_reducible refine need ?_ | ((with_reducible first | apply frk0 | apply frk1 | apply frk2 | apply frk3 | apply frk4 | apply frk5 | apply frk6 | apply frk7 | apply frk8 | apply frk9) <;> intro h <;> try (exfalso; omega)) | with_reducible refine quiet_and ?_ ?_ | with_reducible refine awp_drawnA mixed (by decide +kernel) ?_ | ((fail_if_success with_reducible refine stp ?_); simp -implicitDefEqProofs only [go_sem, Nat.reduceEqDiff, Nat.reduceAdd, Nat.reduceLT, Nat.reduceMul, Nat.reduceSub, Nat.reduceLeDiff, ↓reduceIte, reduceCtorEq, ↓String.reduceEq, String.reduceNe, Int.reduceToNat, Int.reduceLT, Int.reduceLE, Int.reduceGT, Int.reduceGE, Int.reduceEq, Int.reduceNe, Int.reduceBEq, Int.reduceBNe, Int.reduceAdd, Int.reduceSub, Int.reduceMul, Int.reduceNeg,  *]))
  refine range_wp kfm (fun r hr => ?_)
  have HR := Hid.mk hr
  have hfr : fm ≠ r := seenB kfm hr
  clear hr
  repeat' (first | exact tf0 ‹_› | exact tf1 ‹_› | exact False.elim ‹_› | (with_reducible refine Al.intro ?_; intro pb hpb; (try simp only [hupd_none'] at hpb); (repeat rcases hpb with ⟨⟨hpx, hpy⟩, hpb⟩)) | with_reducible refine need ?_ | ((with_reducible first | apply frk0 | apply frk1 | apply frk2 | apply frk3 | apply frk4 | apply frk5 | apply frk6 | apply frk7 | apply frk8 | apply frk9) <;> intro h <;> try (exfalso; omega)) | with_reducible refine quiet_and ?_ ?_ | with_reducible refine awp_drawnA mixed (by decide +kernel) ?_ | ((fail_if_success with_reducible refine stp ?_); simp -implicitDefEqProofs only [go_sem, Nat.reduceEqDiff, Nat.reduceAdd, Nat.reduceLT, Nat.reduceMul, Nat.reduceSub, Nat.reduceLeDiff, ↓reduceIte, reduceCtorEq, ↓String.reduceEq, String.reduceNe, Int.reduceToNat, Int.reduceLT, Int.reduceLE, Int.reduceGT, Int.reduceGE, Int.reduceEq, Int.reduceNe, Int.reduceBEq, Int.reduceBNe, Int.reduceAdd, Int.reduceSub, Int.reduceMul, Int.reduceNeg,  *]))
  have HF := Hid.mk kfm
  clear ktb kfm
  refine awp_loopP 0 (fun ts m' => ∃ (ds : List Nat) (w : AVal), ts 3 = w ∧ Hid (ds.Nodup ∧ (∀ i, i < L.length ↔ i ∈ ds) ∧ SlM encN 1 (opensD L ds) w m' ∧ Sub m m' ∧ ∀ c, bOf w = some c → m c = none))
    (fun k ts m' => ∃ (ds : List Nat) (w : AVal), Hid (k = L.length - ds.length ∧ ds.Nodup ∧ (∀ i ∈ ds, i < L.length) ∧ SlM encN 1 (opensD L ds) w m' ∧ Sub m m' ∧ (∀ c, bOf w = some c → m c = none ∧ c ≠ r)) ∧ m' r = some (.obj (.mapIter (some fm) clF (ds.map fun i => bsF.getD i 0).toArray clF)) ∧ ts 3 = w ∧ ts 12 = .ptr r 0) L.length
    ⟨[], .nils, .mk ⟨rfl, List.nodup_nil, (fun i hi => by cases hi), .inl ⟨rfl, rfl⟩, (Sub.refl _).fresh HR.out, (fun c hc => by cases hc)⟩, by rw [hupd_at, if_pos rfl]; rfl, ttt, ttt⟩ ?_ ?_
  · rintro k ts m2 ⟨ds, w, H, hr2, t3, t12⟩
    have hb2 := H.out.2.2.2.2.1 _ _ HF.out
    repeat' (first | exact tf0 ‹_› | exact tf1 ‹_› | exact False.elim ‹_› | (with_reducible refine Al.intro ?_; intro pb hpb; (try simp only [hupd_none'] at hpb); (repeat rcases hpb with ⟨⟨hpx, hpy⟩, hpb⟩)) | with_reducible refine need ?_ | ((with_reducible first | apply frk0 | apply frk1 | apply frk2 | apply frk3 | apply frk4 | apply frk5 | apply frk6 | apply frk7 | apply frk8 | apply frk9) <;> intro h <;> try (exfalso; omega)) | with_reducible refine quiet_and ?_ ?_ | with_reducible refine awp_drawnA mixed (by decide +kernel) ?_ | ((fail_if_success with_reducible refine stp ?_); simp -implicitDefEqProofs only [go_sem, Nat.reduceEqDiff, Nat.reduceAdd, Nat.reduceLT, Nat.reduceMul, Nat.reduceSub, Nat.reduceLeDiff, ↓reduceIte, reduceCtorEq, ↓String.reduceEq, String.reduceNe, Int.reduceToNat, Int.reduceLT, Int.reduceLE, Int.reduceGT, Int.reduceGE, Int.reduceEq, Int.reduceNe, Int.reduceBEq, Int.reduceBNe, Int.reduceAdd, Int.reduceSub, Int.reduceMul, Int.reduceNeg,  *]))
    refine next_wp hr2 hb2 (fun hend => ?_) (fun i hi hni => ?_)
    · have hall : ∀ i, i < L.length ↔ i ∈ ds := fun i => ⟨fun hi => by
        have hib : i < bsF.length := by rw [HB.out.1.2.2]; exact hi
        have h1 := hend (bsF.getD i 0) (by simp only [List.getD_eq_getElem?_getD, List.getElem?_eq_getElem hib, Option.getD_some]; exact List.getElem_mem hib)
        rw [List.mem_toArray, List.mem_map] at h1
        obtain ⟨j, hj, he⟩ := h1
        rw [← nodup_at HB.out.1.1 (by rw [HB.out.1.2.2]; exact H.out.2.2.1 j hj) hib he]; exact hj, fun hi => H.out.2.2.1 i hi⟩
      have HA := Hid.mk hall
      clear hall hend
      repeat' (first | exact tf0 ‹_› | exact tf1 ‹_› | exact False.elim ‹_› | (with_reducible refine Al.intro ?_; intro pb hpb; (try simp only [hupd_none'] at hpb); (repeat rcases hpb with ⟨⟨hpx, hpy⟩, hpb⟩)) | with_reducible refine need ?_ | ((with_reducible first | apply frk0 | apply frk1 | apply frk2 | apply frk3 | apply frk4 | apply frk5 | apply frk6 | apply frk7 | apply frk8 | apply frk9) <;> intro h <;> try (exfalso; omega)) | with_reducible refine quiet_and ?_ ?_ | with_reducible refine awp_drawnA mixed (by decide +kernel) ?_ | ((fail_if_success with_reducible refine stp ?_); simp -implicitDefEqProofs only [go_sem, Nat.reduceEqDiff, Nat.reduceAdd, Nat.reduceLT, Nat.reduceMul, Nat.reduceSub, Nat.reduceLeDiff, ↓reduceIte, reduceCtorEq, ↓String.reduceEq, String.reduceNe, Int.reduceToNat, Int.reduceLT, Int.reduceLE, Int.reduceGT, Int.reduceGE, Int.reduceEq, Int.reduceNe, Int.reduceBEq, Int.reduceBNe, Int.reduceAdd, Int.reduceSub, Int.reduceMul, Int.reduceNeg,  *]))
      refine Again.intro ⟨ds, w, (by first | (simp only [upd, put, Nat.reduceEqDiff, ↓reduceIte, t3]; done) | (simp [upd, put, t3]; done) | rfl | (simp [upd, put, t3]; rfl)), .mk ⟨H.out.2.1, HA.out, ?_, ?_, fun c hc => (H.out.2.2.2.2.2 c hc).1⟩⟩
      · exact H.out.2.2.2.1
      · exact H.out.2.2.2.2.1
    · have hiL : i < L.length := by rw [← HEL.out]; exact hi
      have hnd : i ∉ ds := fun h => hni (by rw [List.mem_toArray, List.mem_map]; exact ⟨i, h, rfl⟩)
      have hnd2 : (ds ++ [i]).Nodup := by
        rw [List.nodup_append]
        exact ⟨H.out.2.1, by simp, fun a ha c hc e => by rw [List.mem_singleton.1 hc] at e; exact hnd (e ▸ ha)⟩
      have hlt2 : ∀ j ∈ ds ++ [i], j < L.length := fun j hj => by
        rcases List.mem_append.1 hj with h | h
        · exact H.out.2.2.1 j h
        · rw [List.mem_singleton.1 h]; exact hiL
      have hle := nodup_le _ _ hnd2 hlt2
      rw [List.length_append, List.length_singleton] at hle
      have hat := frs_at hiL
      have hst := opensD_step L ds i
      obtain ⟨x, hx⟩ : ∃ x, L.getD i default = x := ⟨_, rfl⟩
      rw [hx] at hat hst
      obtain ⟨xt, ⟨q0, q1, q2, q3⟩, xf, xa⟩ := x
      simp only [frV] at hat
      have hol : (opensD L ds).length ≤ ds.length := by unfold opensD; rw [List.length_map]; exact List.length_filter_le _ _
      have HD := Hid.mk (And.intro hnd2 (And.intro hlt2 (And.intro hle (And.intro hi (And.intro hst hol)))))
      clear hnd hnd2 hlt2 hle hni hi hiL hx hst hol
      repeat' (first | exact tf0 ‹_› | exact tf1 ‹_› | exact False.elim ‹_› | (with_reducible refine Al.intro ?_; intro pb hpb; (try simp only [hupd_none'] at hpb); (repeat rcases hpb with ⟨⟨hpx, hpy⟩, hpb⟩)) | with_reducible refine need ?_ | ((with_reducible first | apply frk0 | apply frk1 | apply frk2 | apply frk3 | apply frk4 | apply frk5 | apply frk6 | apply frk7 | apply frk8 | apply frk9) <;> intro h <;> try (exfalso; omega)) | with_reducible refine quiet_and ?_ ?_ | with_reducible refine awp_drawnA mixed (by decide +kernel) ?_ | ((fail_if_success with_reducible refine stp ?_); simp -implicitDefEqProofs only [go_sem, Nat.reduceEqDiff, Nat.reduceAdd, Nat.reduceLT, Nat.reduceMul, Nat.reduceSub, Nat.reduceLeDiff, ↓reduceIte, reduceCtorEq, ↓String.reduceEq, String.reduceNe, Int.reduceToNat, Int.reduceLT, Int.reduceLE, Int.reduceGT, Int.reduceGE, Int.reduceEq, Int.reduceNe, Int.reduceBEq, Int.reduceBNe, Int.reduceAdd, Int.reduceSub, Int.reduceMul, Int.reduceNeg,  *]))
      refine entry_wp i (by rw [hupd_at, if_pos rfl]) (by rw [hupd_ne hfr]; exact hb2) HD.out.2.2.2.1 ?_
      rw [hat]
      have frr : ∀ c, m2 c = none → (r = c) = False := fun c h => by rw [eq_iff_iff, iff_false]; exact seenB hr2 h
      have frr2 : ∀ c, m2 c = none → (c = r) = False := fun c h => by rw [eq_iff_iff, iff_false]; exact Ne.symm (seenB hr2 h)
      by_cases hxf : xf = 0
      · have hxb : (xf == 0) = true := by simpa using hxf
        have HXF := Hid.mk hxf
        clear hxf
        repeat' (first | exact tf0 ‹_› | exact tf1 ‹_› | exact False.elim ‹_› | (with_reducible refine Al.intro ?_; intro pb hpb; (try simp only [hupd_none'] at hpb); (repeat rcases hpb with ⟨⟨hpx, hpy⟩, hpb⟩)) | with_reducible refine need ?_ | ((with_reducible first | apply frk0 | apply frk1 | apply frk2 | apply frk3 | apply frk4 | apply frk5 | apply frk6 | apply frk7 | apply frk8 | apply frk9) <;> intro h <;> try (exfalso; omega)) | with_reducible refine quiet_and ?_ ?_ | with_reducible refine awp_drawnA mixed (by decide +kernel) ?_ | ((fail_if_success with_reducible refine stp ?_); simp -implicitDefEqProofs only [go_sem, Nat.reduceEqDiff, Nat.reduceAdd, Nat.reduceLT, Nat.reduceMul, Nat.reduceSub, Nat.reduceLeDiff, ↓reduceIte, reduceCtorEq, ↓String.reduceEq, String.reduceNe, Int.reduceToNat, Int.reduceLT, Int.reduceLE, Int.reduceGT, Int.reduceGE, Int.reduceEq, Int.reduceNe, Int.reduceBEq, Int.reduceBNe, Int.reduceAdd, Int.reduceSub, Int.reduceMul, Int.reduceNeg,  *]))
        rename_i p9 e9 n9r nr9x np9 n9p
        have hwc : ∀ c, bOf w = some c → c ≠ p9 ∧ c ≠ pb := fun c hc => ⟨fun e => slm_some H.out.2.2.2.1 hc (by rw [e]; exact e9), fun e => slm_some H.out.2.2.2.1 hc (by rw [e]; exact hpb)⟩
        have nr9 : r ≠ p9 := seenB hr2 e9
        have nrp : r ≠ pb := seenB hr2 hpb
        refine appN (enc := encN) (sz := 1) (C := opensD L ds) (E := [xt]) (pre := []) (post := []) (N := 1) Tryz.underlying69 tk_3 eb_3 zl_3 (by decide) (by rw [Tryz.underlying69]; rfl) (by unfold isInt; rw [Tryz.underlying69]) (fun _ => rfl) rfl (by rw [hupd_at, if_pos rfl]; rfl)
          (H.out.2.2.2.1.keep (fun c hc => by rw [hupd_ne (hwc c hc).2, hupd_ne (hwc c hc).1, hupd_ne (H.out.2.2.2.2.2 c hc).2])) (by have := HD.out.2.2.1; have := HD.out.2.2.2.2.2; have := HB.out.2.2; simp only [List.length_singleton]; omega) (fun v3 m3 h1 h2 => ?_)
        have kr : m3 r = _ := (h2.1 r (fun e => (H.out.2.2.2.2.2 r e).2 rfl) (by rw [hupd_ne nrp, hupd_ne nr9, hupd_at, if_pos rfl] <;> simp)).trans (by rw [hupd_ne nrp, hupd_ne nr9, hupd_at, if_pos rfl])
        have ks : Sub m m3 := fun c y hc => by
          have hm2 := H.out.2.2.2.2.1 c y hc
          have n1 := seenB hm2 e9
          have n2 := seenB hm2 hpb
          have n3 : c ≠ r := seenB hc HR.out
          rw [h2.1 c (fun e => by have h := (H.out.2.2.2.2.2 c e).1; rw [hc] at h; cases h) (by rw [hupd_ne n2, hupd_ne n1, hupd_ne n3, hm2] <;> simp), hupd_ne n2, hupd_ne n1, hupd_ne n3]; exact hm2
        have kc : ∀ c, bOf v3 = some c → m c = none ∧ c ≠ r := fun c hc => by
          rcases h2.2 c hc with h | h
          · simp only [hupd_none'] at h
            exact ⟨H.out.2.2.2.2.1.gone h.2.2.2, h.2.2.1.1⟩
          · exact H.out.2.2.2.2.2 c h
        have HZ := Hid.mk (And.intro h1 (And.intro kr (And.intro ks kc)))
        clear h1 h2 kr ks kc hwc nr9 nrp e9 hpb
        repeat' (first | exact tf0 ‹_› | exact tf1 ‹_› | exact False.elim ‹_› | (with_reducible refine Al.intro ?_; intro pb hpb; (try simp only [hupd_none'] at hpb); (repeat rcases hpb with ⟨⟨hpx, hpy⟩, hpb⟩)) | with_reducible refine need ?_ | ((with_reducible first | apply frk0 | apply frk1 | apply frk2 | apply frk3 | apply frk4 | apply frk5 | apply frk6 | apply frk7 | apply frk8 | apply frk9) <;> intro h <;> try (exfalso; omega)) | with_reducible refine quiet_and ?_ ?_ | with_reducible refine awp_drawnA mixed (by decide +kernel) ?_ | ((fail_if_success with_reducible refine stp ?_); simp -implicitDefEqProofs only [go_sem, Nat.reduceEqDiff, Nat.reduceAdd, Nat.reduceLT, Nat.reduceMul, Nat.reduceSub, Nat.reduceLeDiff, ↓reduceIte, reduceCtorEq, ↓String.reduceEq, String.reduceNe, Int.reduceToNat, Int.reduceLT, Int.reduceLE, Int.reduceGT, Int.reduceGE, Int.reduceEq, Int.reduceNe, Int.reduceBEq, Int.reduceBNe, Int.reduceAdd, Int.reduceSub, Int.reduceMul, Int.reduceNeg,  *]))
        refine Again.intro ⟨L.length - (ds.length + 1), by have := H.out.1; have := HD.out.2.2.1; omega, _, Sub.refl _, ds ++ [i], v3, .mk ⟨by rw [List.length_append, List.length_singleton], HD.out.1, HD.out.2.1, ?_, HZ.out.2.2.1, HZ.out.2.2.2⟩, ?_, ttt, (by first | (simp only [upd, put, Nat.reduceEqDiff, ↓reduceIte, t12]; done) | (simp [upd, put, t12]; done) | rfl | (simp [upd, put, t12]; rfl))⟩
        · rw [HD.out.2.2.2.2.1, if_pos HXF.out]; exact HZ.out.1
        · rw [HZ.out.2.1]; simp
      · have hxb : (xf == 0) = false := by simpa using hxf
        have HXF := Hid.mk hxf
        clear hxf
        repeat' (first | exact tf0 ‹_› | exact tf1 ‹_› | exact False.elim ‹_› | (with_reducible refine Al.intro ?_; intro pb hpb; (try simp only [hupd_none'] at hpb); (repeat rcases hpb with ⟨⟨hpx, hpy⟩, hpb⟩)) | with_reducible refine need ?_ | ((with_reducible first | apply frk0 | apply frk1 | apply frk2 | apply frk3 | apply frk4 | apply frk5 | apply frk6 | apply frk7 | apply frk8 | apply frk9) <;> intro h <;> try (exfalso; omega)) | with_reducible refine quiet_and ?_ ?_ | with_reducible refine awp_drawnA mixed (by decide +kernel) ?_ | ((fail_if_success with_reducible refine stp ?_); simp -implicitDefEqProofs only [go_sem, Nat.reduceEqDiff, Nat.reduceAdd, Nat.reduceLT, Nat.reduceMul, Nat.reduceSub, Nat.reduceLeDiff, ↓reduceIte, reduceCtorEq, ↓String.reduceEq, String.reduceNe, Int.reduceToNat, Int.reduceLT, Int.reduceLE, Int.reduceGT, Int.reduceGE, Int.reduceEq, Int.reduceNe, Int.reduceBEq, Int.reduceBNe, Int.reduceAdd, Int.reduceSub, Int.reduceMul, Int.reduceNeg,  *]))
        refine Again.intro ⟨L.length - (ds.length + 1), by have := H.out.1; have := HD.out.2.2.1; omega, _, Sub.refl _, ds ++ [i], w, .mk ⟨by rw [List.length_append, List.length_singleton], HD.out.1, HD.out.2.1, ?_, ?_, H.out.2.2.2.2.2⟩, ?_, (by first | (simp only [upd, put, Nat.reduceEqDiff, ↓reduceIte, t3]; done) | (simp [upd, put, t3]; done) | rfl | (simp [upd, put, t3]; rfl)), (by first | (simp only [upd, put, Nat.reduceEqDiff, ↓reduceIte, t12]; done) | (simp [upd, put, t12]; done) | rfl | (simp [upd, put, t12]; rfl))⟩
        · rw [HD.out.2.2.2.2.1, if_neg HXF.out, List.append_nil]
          exact H.out.2.2.2.1.keep (fun c hc => by rw [hupd_ne (fun e => slm_some H.out.2.2.2.1 hc (by rw [e]; exact hpb)), hupd_ne (H.out.2.2.2.2.2 c hc).2])
        · intro c y hc
          rw [hupd_ne (seenB (H.out.2.2.2.2.1 c y hc) hpb), hupd_ne (seenB hc HR.out)]; exact H.out.2.2.2.2.1 c y hc
        · rw [hupd_ne (seenB hr2 hpb), hupd_at, if_pos rfl]; simp
  · rintro ts m2 ⟨ds, w, t3, H⟩
    have hsl := H.out.2.2.1
    have hol : (opensD L ds).length ≤ 100000 := by
      have h1 : (opensD L ds).length ≤ ds.length := by unfold opensD; rw [List.length_map]; exact List.length_filter_le _ _
      have h2 := nodup_le L.length ds H.out.1 (fun i hi => (H.out.2.1 i).2 hi)
      have := HB.out.2.2
      omega
    have hsp := Hid.mk (isort_spec G (opensD L ds) (by omega) w m2 hsl)
    have HSE := Hid.mk (srt_perm (opens_perm L ds H.out.1 H.out.2.1))
    have hf := hsl.slv
    clear hsl hol
    have HW := Hid.mk t3
    rcases hf with ⟨rfl, -⟩ | ⟨b5, o5, c5, rfl⟩
    all_goals (
      repeat' (first | exact tf0 ‹_› | exact tf1 ‹_› | exact False.elim ‹_› | (with_reducible refine Al.intro ?_; intro pb hpb; (try simp only [hupd_none'] at hpb); (repeat rcases hpb with ⟨⟨hpx, hpy⟩, hpb⟩)) | with_reducible refine need ?_ | ((with_reducible first | apply frk0 | apply frk1 | apply frk2 | apply frk3 | apply frk4 | apply frk5 | apply frk6 | apply frk7 | apply frk8 | apply frk9) <;> intro h <;> try (exfalso; omega)) | with_reducible refine quiet_and ?_ ?_ | with_reducible refine awp_drawnA mixed (by decide +kernel) ?_ | ((fail_if_success with_reducible refine stp ?_); simp -implicitDefEqProofs only [go_sem, Nat.reduceEqDiff, Nat.reduceAdd, Nat.reduceLT, Nat.reduceMul, Nat.reduceSub, Nat.reduceLeDiff, ↓reduceIte, reduceCtorEq, ↓String.reduceEq, String.reduceNe, Int.reduceToNat, Int.reduceLT, Int.reduceLE, Int.reduceGT, Int.reduceGE, Int.reduceEq, Int.reduceNe, Int.reduceBEq, Int.reduceBNe, Int.reduceAdd, Int.reduceSub, Int.reduceMul, Int.reduceNeg,  *]))
      refine hsp.out _ (fun m3 k1 k2 => ?_)
      rw [HSE.out] at k1
      have ks : Sub m m3 := fun c y hc => by
        rw [k2 c (fun e => by have h := H.out.2.2.2.2 c e; rw [hc] at h; cases h)]; exact H.out.2.2.2.1 c y hc
      have HZ := Hid.mk (HB.out.2.1 _ m3 k1 ks H.out.2.2.2.2)
      clear k1 k2 ks
      repeat' (first | exact tf0 ‹_› | exact tf1 ‹_› | exact False.elim ‹_› | (with_reducible refine Al.intro ?_; intro pb hpb; (try simp only [hupd_none'] at hpb); (repeat rcases hpb with ⟨⟨hpx, hpy⟩, hpb⟩)) | with_reducible refine need ?_ | ((with_reducible first | apply frk0 | apply frk1 | apply frk2 | apply frk3 | apply frk4 | apply frk5 | apply frk6 | apply frk7 | apply frk8 | apply frk9) <;> intro h <;> try (exfalso; omega)) | with_reducible refine quiet_and ?_ ?_ | with_reducible refine awp_drawnA mixed (by decide +kernel) ?_ | ((fail_if_success with_reducible refine stp ?_); simp -implicitDefEqProofs only [go_sem, Nat.reduceEqDiff, Nat.reduceAdd, Nat.reduceLT, Nat.reduceMul, Nat.reduceSub, Nat.reduceLeDiff, ↓reduceIte, reduceCtorEq, ↓String.reduceEq, String.reduceNe, Int.reduceToNat, Int.reduceLT, Int.reduceLE, Int.reduceGT, Int.reduceGE, Int.reduceEq, Int.reduceNe, Int.reduceBEq, Int.reduceBNe, Int.reduceAdd, Int.reduceSub, Int.reduceMul, Int.reduceNeg,  *]))
      exact ⟨_, Sub.refl _, by first | exact HZ.out | (rw [HW.out]; exact HZ.out)⟩)
end Go.Proofs.YtdckcophbmnjjaaGreatDoor
namespace Go.Proofs.YtdckcophbmnjjaaGreatDoor
open Go Go.Proofs.YtdckcophbmnjjaaGreatDoor.Ab
open Go.Proofs (Tryz.prog)
set_option maxRecDepth 100000
theorem slm_one1 (s : Stm) (b : Nat) (m : Heap) (h : m b = some (.cells (encSc s) 7)) : SlM encSc 7 [s] (.slice b 0 1 1) m :=
  .inr ⟨b, _, h, [], [], 7, 1, rfl, by simp, by simp, by simp⟩
theorem take_nil (G : Nat → AVal) (tag : Int) (j : Jb) (m : Heap) : CallWP Tryz.prog G 9 [.nilp, .int .i64 tag, .agg (encJc j)] m fun w m' => w = .int .i64 7 ∧ m' = m := by
  refine callWP_body Tryz.func9 rfl (N := 72) rfl (rs := [.tmp 6]) rfl en_9 (of_decide_eq_true rfl) ?_
  repeat' (first | exact tf0 ‹_› | exact tf1 ‹_› | exact False.elim ‹_› | (with_reducible refine Al.intro ?_; intro pb hpb; (try simp only [hupd_none'] at hpb); (repeat rcases hpb with ⟨⟨hpx, hpy⟩, hpb⟩)) | with_reducible refine need ?_ | ((with_reducible first | apply frk0 | apply frk1 | apply frk2 | apply frk3 | apply frk4 | apply frk5 | apply frk6 | apply frk7 | apply frk8 | apply frk9) <;> intro h <;> try (exfalso; omega)) | with_reducible refine quiet_and ?_ ?_ | with_reducible refine awp_drawnA mixed (by decide +kernel) ?_ | ((fail_if_success with_reducible refine stp ?_); simp -implicitDefEqProofs only [go_sem, Nat.reduceEqDiff, Nat.reduceAdd, Nat.reduceLT, Nat.reduceMul, Nat.reduceSub, Nat.reduceLeDiff, ↓reduceIte, reduceCtorEq, ↓String.reduceEq, String.reduceNe, Int.reduceToNat, Int.reduceLT, Int.reduceLE, Int.reduceGT, Int.reduceGE, Int.reduceEq, Int.reduceNe, Int.reduceBEq, Int.reduceBNe, Int.reduceAdd, Int.reduceSub, Int.reduceMul, Int.reduceNeg,  encJc, *]))
  exact ⟨m, (by (repeat refine Sub.fresh ?_ (by assumption)); exact Sub.refl _), rfl, rfl⟩
theorem fate_nil (G : Nat → AVal) (tag k at1 : Int) (m : Heap) : CallWP Tryz.prog G 11 [.nilp, .agg [.int .i64 tag, .int .i64 k, .int .i64 at1]] m fun w m' => w = .int .i64 7 ∧ m' = m := by
  refine callWP_body Tryz.func11 rfl (N := 82) rfl (rs := [.tmp 4]) rfl en_11 (of_decide_eq_true rfl) ?_
  repeat' (first | exact tf0 ‹_› | exact tf1 ‹_› | exact False.elim ‹_› | (with_reducible refine Al.intro ?_; intro pb hpb; (try simp only [hupd_none'] at hpb); (repeat rcases hpb with ⟨⟨hpx, hpy⟩, hpb⟩)) | with_reducible refine need ?_ | ((with_reducible first | apply frk0 | apply frk1 | apply frk2 | apply frk3 | apply frk4 | apply frk5 | apply frk6 | apply frk7 | apply frk8 | apply frk9) <;> intro h <;> try (exfalso; omega)) | with_reducible refine quiet_and ?_ ?_ | with_reducible refine awp_drawnA mixed (by decide +kernel) ?_ | ((fail_if_success with_reducible refine stp ?_); simp -implicitDefEqProofs only [go_sem, Nat.reduceEqDiff, Nat.reduceAdd, Nat.reduceLT, Nat.reduceMul, Nat.reduceSub, Nat.reduceLeDiff, ↓reduceIte, reduceCtorEq, ↓String.reduceEq, String.reduceNe, Int.reduceToNat, Int.reduceLT, Int.reduceLE, Int.reduceGT, Int.reduceGE, Int.reduceEq, Int.reduceNe, Int.reduceBEq, Int.reduceBNe, Int.reduceAdd, Int.reduceSub, Int.reduceMul, Int.reduceNeg,  *]))
  exact ⟨m, (by (repeat refine Sub.fresh ?_ (by assumption)); exact Sub.refl _), rfl, rfl⟩
abbrev sT : Stm := (3, 0, 1, 900, 500, 0, 1)
abbrev jT : Jb := (3, 10, 510, 90)
abbrev L1T : List Ntd := [(7, jT, 0, 0)]
abbrev L2T : List Ntd := [(7, jT, 0, 0), (8, jT, 0, 0)]
abbrev L3T : List Ntd := [(7, jT, 1, 400), (8, jT, 0, 0)]
abbrev L4T : List Ntd := [(7, jT, 1, 400), (8, jT, 5, 600)]
theorem jT_eq : jobS sT 10 = (jT, 0) := by decide
theorem tk1 : takeF [sT] [] 7 jT = (0, L1T) := by rfl
theorem tk2 : takeF [sT] L1T 7 jT = (13, L1T) := by rfl
theorem tk3 : takeF [sT] L1T 8 jT = (0, L2T) := by rfl
theorem ft1 : fateF L2T 7 1 400 = (0, L3T) := by rfl
theorem ft2 : fateF L3T 7 5 400 = (8, L3T) := by rfl
theorem ft3 : fateF L3T 8 5 600 = (0, L4T) := by rfl
theorem rw1 : rowOf (pId 3) L3T = (2, (1, 1, 0, 0, 0, 0), -110, -110, true) := by rfl
theorem rw2 : rowOf pAll L4T = (2, (0, 1, 0, 0, 0, 1), -110, -110, true) := by rfl
theorem op1 : srtI (opensL L3T) = [8] := by
  have : opensL L3T = [8] := by decide
  rw [this]; simp [srtI]
theorem ws1 : worstF L4T [sT] = (3, true) := by decide
theorem rt1 : ratioF 3 [sT] L4T 5 = 500 := by
  unfold ratioF
  rw [if_neg]
  · decide
  · rintro (h | h | h | h)
    · exact h ⟨sT, by simp, rfl⟩
    · exact absurd h (by decide)
    · exact absurd h (by decide)
    · exact absurd h (by decide)
theorem gT (L : List Ntd) (h : ∀ x ∈ L, x.2.1 = jT ∧ 0 ≤ x.2.2.1 ∧ x.2.2.1 ≤ 5) : GoodL [sT] L := fun x hx => by
  obtain ⟨h1, h2⟩ := h x hx
  rw [h1]
  exact ⟨⟨sT, by simp, rfl⟩, h2, by decide, by decide⟩
theorem gT2 : GoodL [sT] L2T := gT _ (by decide)
theorem gT3 : GoodL [sT] L3T := gT _ (by decide)
theorem rcT : rightC [sT] 1 := by
  rw [rightC_iff]
  exact ⟨by simp, ⟨by decide, by decide⟩, by decide, by simp, by decide⟩
/-- What a table's call leaves. -/
theorem Rep.fresh {T : Tab} {C : List Stm} {L : List Ntd} {m : Heap} (h : Rep T C L m) {c : Nat} {y : ABlk} (hc : m c = none) : Rep T C L (hupd m c y) := h.into ((Sub.refl _).fresh hc)
theorem Else.sub {T : Tab} {C : List Stm} {m M M' : Heap} (h : Else T C M M') (hs : Sub m M) (ho : ∀ c, T.own C c → m c = none) : Sub m M' := fun c y hc => by
  rw [h c (by rw [hs c y hc]; simp) (fun g => by rw [ho c g] at hc; cases hc)]; exact hs c y hc
theorem Else.at {T : Tab} {C : List Stm} {M M' : Heap} (h : Else T C M M') {c : Nat} {y : ABlk} (hc : M c = some y) (ho : ¬ T.own C c) : M' c = some y := by
  rw [h c (by rw [hc]; simp) ho]; exact hc
end Go.Proofs.YtdckcophbmnjjaaGreatDoor
