/- The spans at which demand grows, the program's way. Whether streams ask for too much, and where first, the program's way. -/
import Derived.Test.YtmifapnmlhchlaaDoorY22
set_option linter.all false
namespace Go.Proofs.YtmifapnmlhchlaaDoor
open Go Go.Proofs.YtmifapnmlhchlaaDoor.Ab
open Go.Proofs (Tryd.prog)
set_option maxRecDepth 100000
/-- A map whose keys are a set. -/
def MapI (S : Int → Prop) (es : List (Int × AVal)) (bs : List Nat) (cl : Nat) : Prop := bs.Nodup ∧ (∀ x ∈ bs, x < cl) ∧ bs.length = es.length ∧ (es.map (·.1)).Nodup ∧ ∀ x, x ∈ es.map (·.1) ↔ S x
theorem mapI_nil : MapI (fun _ => False) [] [] 0 := ⟨List.nodup_nil, fun x hx => (by cases hx), rfl, List.nodup_nil, fun x => by simp⟩
theorem MapI.same {S T : Int → Prop} {es : List (Int × AVal)} {bs : List Nat} {cl : Nat} (h : MapI S es bs cl) (hs : ∀ x, S x ↔ T x) : MapI T es bs cl :=
  ⟨h.1, h.2.1, h.2.2.1, h.2.2.2.1, fun x => (h.2.2.2.2 x).trans (hs x)⟩
theorem mapI_put {S : Int → Prop} {es : List (Int × AVal)} {bs : List Nat} {cl : Nat} (h : MapI S es bs cl) (a : Int) (v : AVal) : ∃ es' bs' cl', mput es bs cl a v = .map es' bs' cl' ∧ MapI (fun x => S x ∨ x = a) es' bs' cl' := by
  obtain ⟨h1, h2, h3, h4, h5⟩ := h
  unfold mput
  cases hk : kidx es a with
  | some i =>
    obtain ⟨hi, he⟩ := kidx_some hk
    have hm : (es.set i (a, v)).map (·.1) = es.map (·.1) := by
      rw [List.map_set]
      refine List.ext_getElem (by simp) (fun j g1 g2 => ?_)
      rw [List.getElem_set]
      split
      · rename_i e; subst e
        simp only [List.getElem_map]
        simpa [List.getD_eq_getElem?_getD, hi] using he.symm
      · rfl
    have ha : a ∈ es.map (·.1) := by
      rw [List.mem_map]
      exact ⟨es[i], List.getElem_mem hi, by simpa [List.getD_eq_getElem?_getD, hi] using he⟩
    refine ⟨_, _, _, rfl, h1, h2, by rw [List.length_set]; exact h3, by rw [hm]; exact h4, fun x => ?_⟩
    rw [hm, h5]
    exact ⟨.inl, fun h => h.elim id (fun e => by rw [e]; exact (h5 a).1 ha)⟩
  | none =>
    have ha := kidx_none hk
    refine ⟨_, _, _, rfl, ?_, ?_, by simp [h3], ?_, fun x => ?_⟩
    · rw [List.nodup_append]
      exact ⟨h1, by simp, fun x hx y hy e => by rw [List.mem_singleton.1 hy] at e; have := h2 x hx; omega⟩
    · intro x hx
      rcases List.mem_append.1 hx with h | h
      · have := h2 x h; omega
      · rw [List.mem_singleton.1 h]; omega
    · rw [List.map_append, List.nodup_append]
      refine ⟨h4, by simp, fun x hx y hy e => ?_⟩
      obtain ⟨z, hz, rfl⟩ := List.mem_map.1 hx
      simp only [List.map_cons, List.map_nil, List.mem_singleton] at hy
      exact ha z hz (e.trans hy)
    · rw [List.map_append, List.mem_append, h5]
      simp
theorem nodup_int : ∀ (n : Nat) (l : List Int), l.Nodup → (∀ x ∈ l, 1 ≤ x ∧ x ≤ n) → l.length ≤ n := by
  intro n l hn h
  have := nodup_le n (l.map fun x => (x - 1).toNat) ?_ ?_
  · rwa [List.length_map] at this
  · show List.Pairwise (· ≠ ·) _
    rw [List.pairwise_map]
    refine List.Pairwise.imp_of_mem (fun {a b} ha hb hab e => hab ?_) hn
    have := h a ha; have := h b hb; omega
  · intro i hi
    obtain ⟨x, hx, rfl⟩ := List.mem_map.1 hi
    have := h x hx; omega
/-- The first so many spans of a stream. -/
def PartS (s : Stm) (n h : Int) (j : Nat) (x : Int) : Prop := ∃ k : Nat, k < j ∧ x = s.2.2.2.2.1 - n + 1 + (k : Int) * s.2.2.2.1 ∧ x ≤ h
theorem part_step (s : Stm) (n h : Int) (j : Nat) (x : Int) (hj : s.2.2.2.2.1 - n + 1 + (j : Int) * s.2.2.2.1 ≤ h) : PartS s n h (j + 1) x ↔ PartS s n h j x ∨ x = s.2.2.2.2.1 - n + 1 + (j : Int) * s.2.2.2.1 := by
  constructor
  · rintro ⟨k, hk, rfl, hx⟩
    by_cases e : k = j
    · right; rw [e]
    · exact .inl ⟨k, by omega, rfl, hx⟩
  · rintro (⟨k, hk, rfl, hx⟩ | rfl)
    · exact ⟨k, by omega, rfl, hx⟩
    · exact ⟨j, by omega, rfl, hj⟩
theorem part_all (s : Stm) (n h : Int) (j : Nat) (x : Int) (hc : s.2.2.1 = 1) (hT : 0 < s.2.2.2.1) (hj : ¬ s.2.2.2.2.1 - n + 1 + (j : Int) * s.2.2.2.1 ≤ h) : PartS s n h j x ↔ GrowS s n h x := by
  constructor
  · rintro ⟨k, _, rfl, hx⟩
    exact ⟨hc, k, rfl, hx⟩
  · rintro ⟨_, k, rfl, hx⟩
    refine ⟨k, ?_, rfl, hx⟩
    by_cases h : k < j
    · exact h
    · exfalso
      have : (j : Int) * s.2.2.2.1 ≤ (k : Int) * s.2.2.2.1 := Int.mul_le_mul_of_nonneg_right (by omega) (by omega)
      omega
theorem grow_take (C : List Stm) (n h : Int) (i : Nat) (hi : i < C.length) (x : Int) : GrowC (C.take (i + 1)) n h x ↔ GrowC (C.take i) n h x ∨ GrowS (C.getD i default) n h x := by
  have e : C.take (i + 1) = C.take i ++ [C.getD i default] := by rw [List.take_add_one]; simp [List.getD_eq_getElem?_getD, hi]
  unfold GrowC
  rw [e]
  constructor
  · rintro ⟨s, hs, hg⟩
    rcases List.mem_append.1 hs with h | h
    · exact .inl ⟨s, h, hg⟩
    · rw [List.mem_singleton.1 h] at hg; exact .inr hg
  · rintro (⟨s, hs, hg⟩ | hg)
    · exact ⟨s, List.mem_append_left _ hs, hg⟩
    · exact ⟨_, by simp, hg⟩
/-- The record of a loop whose round goes on. -/
def busyOf : ABlk → ABlk
  | .loop N ts ps a b _ pe => .loop N ts ps a b .busy pe
  | b => b
set_option maxHeartbeats 4000000 in
theorem grows_spec (G : Nat → AVal) (C : List Stm) (n h : Int) (hr : rightC C n) (h1 : 1 ≤ h) (h2 : h ≤ 65536) (v : AVal) (m : Heap) (hs : RdS C v m) (K : AVal → Heap → Prop)
    (hK : ∀ L v' m', L.Pairwise (· < ·) → (∀ x, x ∈ L ↔ GrowC C n h x) → L.length ≤ 65536 → SlM encI 1 L v' m' → Sub m m' → (∀ c, bOf v' = some c → m c = none) → K v' m') : CallWP Tryd.prog G 29 [v, .int .i64 n, .int .i64 h] m K := by
  have HG := Hid.mk (And.intro hr (And.intro h1 (And.intro h2 (And.intro hs hK))))
  obtain ⟨b, pre, post, N, cap, hw⟩ := hs.ways rfl
  clear hs hr h1 h2 hK
  rcases hw with ⟨hv, hz⟩ | ⟨hv, hb⟩ | hv
  all_goals (
    refine callWP_body Tryd.func29 rfl (N := 32) rfl (rs := [.tmp 6]) rfl en_29 (of_decide_eq_true rfl) ?_
    repeat' (first | exact tf0 ‹_› | exact tf1 ‹_› | exact False.elim ‹_› | (with_reducible refine Al.intro ?_; intro pb hpb; (try simp only [hupd_none'] at hpb); (repeat rcases hpb with ⟨⟨hpx, hpy⟩, hpb⟩)) | with_reducible refine need ?_ | ((with_reducible first | refine frk0 ?_ ?_ | refine frk1 ?_ ?_ | refine frk2 ?_ ?_ | refine frk3 ?_ ?_ | refine frk4 ?_ ?_ | refine frk5 ?_ ?_ | refine frk6 ?_ ?_ | refine frk7 ?_ ?_ | refine frk8 ?_ ?_ | refine frk9 ?_ ?_) <;> intro h <;> try (exfalso; omega)) | with_reducible refine quiet_and ?_ ?_ | with_reducible refine awp_drawnA mixed (by decide +kernel) ?_ | ((fail_if_success with_reducible refine stp ?_); simp -implicitDefEqProofs only [go_sem, Nat.reduceEqDiff, Nat.reduceAdd, Nat.reduceLT, Nat.reduceMul, Nat.reduceSub, Nat.reduceLeDiff, ↓reduceIte, reduceCtorEq, ↓String.reduceEq, String.reduceNe, Int.reduceToNat, Int.reduceLT, Int.reduceLE, Int.reduceGT, Int.reduceGE, Int.reduceEq, Int.reduceNe, Int.reduceBEq, Int.reduceBNe, Int.reduceAdd, Int.reduceSub, Int.reduceMul, Int.reduceNeg,  *]))
    rename_i p4 e4 p5 e5 n54 n45 bm nb5 n5b eb nb4 n4b n7b nb7 n75 n57
    obtain ⟨p7, e7⟩ : ∃ p, p = pb := ⟨_, rfl⟩
    subst e7
    have n74 := hpx
    have n47 := hpy
    have e7 := hpb
    clear hpx hpy hpb
    obtain ⟨M, hM, k4, k5, kb, k7, ks⟩ : ∃ M, M = hupd (hupd (hupd (hupd m p4 (.cells [.int .i64 n] 1)) p5 (.cells [.int .i64 h] 1)) bm (.map [] [] 0)) p7 (.cells [.map bm] 1) ∧ M p4 = some (.cells [.int .i64 n] 1) ∧ M p5 = some (.cells [.int .i64 h] 1) ∧ M bm = some (.map [] [] 0) ∧ M p7 = some (.cells [.map bm] 1) ∧ Sub m M :=
      ⟨_, rfl, by rw [hupd_ne n47, hupd_ne n4b, hupd_ne n45, hupd_at, if_pos rfl], by rw [hupd_ne n57, hupd_ne n5b, hupd_at, if_pos rfl], by rw [hupd_ne nb7, hupd_at, if_pos rfl], by rw [hupd_at, if_pos rfl], ((((Sub.refl _).fresh e4).fresh e5).fresh eb).fresh e7⟩
    rw [← hM]
    have HM := Hid.mk (And.intro k4 (And.intro k5 (And.intro kb (And.intro k7 ks))))
    have HE := Hid.mk (And.intro e4 (And.intro e5 (And.intro eb e7)))
    clear hM k4 k5 kb k7 ks e4 e5 eb e7
    refine pdue_spec G C _ _ (by rw [← hv]; exact HG.out.2.2.2.1.into HM.out.2.2.2.2) _ (fun pv hpv => ?_)
    have HV := Hid.mk hpv
    clear hpv
    repeat' (first | exact tf0 ‹_› | exact tf1 ‹_› | exact False.elim ‹_› | (with_reducible refine Al.intro ?_; intro pb hpb; (try simp only [hupd_none'] at hpb); (repeat rcases hpb with ⟨⟨hpx, hpy⟩, hpb⟩)) | with_reducible refine need ?_ | ((with_reducible first | refine frk0 ?_ ?_ | refine frk1 ?_ ?_ | refine frk2 ?_ ?_ | refine frk3 ?_ ?_ | refine frk4 ?_ ?_ | refine frk5 ?_ ?_ | refine frk6 ?_ ?_ | refine frk7 ?_ ?_ | refine frk8 ?_ ?_ | refine frk9 ?_ ?_) <;> intro h <;> try (exfalso; omega)) | with_reducible refine quiet_and ?_ ?_ | with_reducible refine awp_drawnA mixed (by decide +kernel) ?_ | ((fail_if_success with_reducible refine stp ?_); simp -implicitDefEqProofs only [go_sem, Nat.reduceEqDiff, Nat.reduceAdd, Nat.reduceLT, Nat.reduceMul, Nat.reduceSub, Nat.reduceLeDiff, ↓reduceIte, reduceCtorEq, ↓String.reduceEq, String.reduceNe, Int.reduceToNat, Int.reduceLT, Int.reduceLE, Int.reduceGT, Int.reduceGE, Int.reduceEq, Int.reduceNe, Int.reduceBEq, Int.reduceBNe, Int.reduceAdd, Int.reduceSub, Int.reduceMul, Int.reduceNeg,  *]))
    refine awp_range' (gf := 44) (fs := []) (cs := [.ptr pv 0]) (by rfl) en_44 (fun l LB HLB hl => ?_)
    simp only [hupd_none'] at hl
    obtain ⟨⟨r1, r2⟩, r3⟩ := hl
    have HL := Hid.mk r3
    clear r3
    have lne : ∀ c y, M c = some y → c ≠ l ∧ c ≠ pv := fun c y hc => ⟨(fun e => by rw [e, HL.out] at hc; cases hc), (fun e => by rw [e, HV.out] at hc; cases hc)⟩
    have l4 := (lne p4 _ HM.out.1).1
    have l5 := (lne p5 _ HM.out.2.1).1
    have lb := (lne bm _ HM.out.2.2.1).1
    have l7 := (lne p7 _ HM.out.2.2.2.1).1
    have LNE := Hid.mk lne
    clear lne
    refine pdue1_spec G C (by have := HG.out.1.1; omega) v (m0 := m) (fun i m' => m' l = some LB ∧ m' p4 = some (.cells [.int .i64 n] 1) ∧ m' p5 = some (.cells [.int .i64 h] 1) ∧ m' p7 = some (.cells [.map bm] 1) ∧ (∃ es bs cl, m' bm = some (.map es bs cl) ∧ MapI (GrowC (C.take i) n h) es bs cl) ∧ Sub m m') _ ?_ ?_ HG.out.2.2.2.1 (fun i m' h => h.2.2.2.2.2) (fun i m' b x h hb => ⟨kept h.1 hb, kept h.2.1 hb, kept h.2.2.1 hb, kept h.2.2.2.1 hb, (by obtain ⟨es, bs, cl, g1, g2⟩ := h.2.2.2.2.1; exact ⟨es, bs, cl, kept g1 hb, g2⟩), h.2.2.2.2.2.fresh (h.2.2.2.2.2.gone hb)⟩) ?_ ?_ ?_
    · have at2 : ∀ c y z, M c = some y → hupd (hupd M pv z) l LB c = some y := fun c y z hc => by
        rw [hupd_ne (LNE.out c y hc).1, hupd_ne (LNE.out c y hc).2]; exact hc
      exact ⟨by rw [hupd_at, if_pos rfl], at2 _ _ _ HM.out.1, at2 _ _ _ HM.out.2.1, at2 _ _ _ HM.out.2.2.2.1, ⟨[], [], 0, at2 _ _ _ HM.out.2.2.1, mapI_nil.same (fun x => by simp [GrowC])⟩, fun c y hc => at2 _ _ _ (HM.out.2.2.2.2 c y hc)⟩
    · rw [hupd_ne r2, hupd_at, if_pos rfl, hv]
    · rintro i hi hc m' ⟨h1, h4, h5, h7, ⟨es, bs, cl, hbm, hmi⟩, hsm⟩
      have hlb := h1.trans (congrArg some HLB.out)
      have hrx : rightS (C.getD i default) = 0 := HG.out.1.2.2.1 _ (by rw [show C.getD i default = C[i] by simp [List.getD_eq_getElem?_getD, hi]]; exact List.getElem_mem hi)
      have hdn : n ≤ (C.getD i default).2.2.2.2.1 := HG.out.1.2.2.2.2 _ (by rw [show C.getD i default = C[i] by simp [List.getD_eq_getElem?_getD, hi]]; exact List.getElem_mem hi) hc
      have hgt := grow_take C n h i hi
      obtain ⟨x, hx⟩ : ∃ x, C.getD i default = x := ⟨_, rfl⟩
      rw [hx] at hc hrx hdn hgt ⊢
      have hin := (rightS_zero.1 hrx).2.2.2.2
      have fr : ∀ c y b', m' c = some y → m' b' = none → (c = b') = False ∧ (b' = c) = False := fun c y b' hc hb => by
        constructor <;> (rw [eq_iff_iff, iff_false]; intro e; first | (rw [e, hb] at hc; cases hc) | (rw [← e, hb] at hc; cases hc))
      have frl := fun b' => (fr l _ b' h1)
      have fr4 := fun b' => (fr p4 _ b' h4)
      have fr5 := fun b' => (fr p5 _ b' h5)
      have fr7 := fun b' => (fr p7 _ b' h7)
      have frb := fun b' => (fr bm _ b' hbm)
      have HC := Hid.mk (And.intro hc (And.intro hin.1 (And.intro hin.2.1 (And.intro hdn (And.intro hgt (And.intro hsm (And.intro h1 (And.intro hmi hbm))))))))
      clear hc hrx hdn hgt hin hx hsm hmi h1 fr hbm
      obtain ⟨x1, x2, x3, T, D, x6, x7⟩ := x
      have hn2 := HG.out.1.2.1
      have hDn : n ≤ D := HC.out.2.2.2.1
      have hT0 : 1 ≤ T ∧ T ≤ 1073741824 := HC.out.2.1
      have hDT : D ≤ T := HC.out.2.2.1.2
      have hh := HG.out.2.2.1
      have hh1 := HG.out.2.1
      have HT := Hid.mk (And.intro hn2 (And.intro hDn (And.intro hT0 (And.intro hDT (And.intro hh hh1)))))
      have w1 : IntKind.i64.wrap (D - n) = D - n := wrap_i64 (by omega) (by omega)
      have w2 : IntKind.i64.wrap (D - n + 1) = D - n + 1 := wrap_i64 (by omega) (by omega)
      clear hn2 hDn hT0 hDT hh hh1
      refine yield_of hlb rfl (by decide +kernel) ?_
      repeat' (first | exact tf0 ‹_› | exact tf1 ‹_› | exact False.elim ‹_› | (with_reducible refine Al.intro ?_; intro pb hpb; (try simp only [hupd_none'] at hpb); (repeat rcases hpb with ⟨⟨hpx, hpy⟩, hpb⟩)) | with_reducible refine need ?_ | ((with_reducible first | refine frk0 ?_ ?_ | refine frk1 ?_ ?_ | refine frk2 ?_ ?_ | refine frk3 ?_ ?_ | refine frk4 ?_ ?_ | refine frk5 ?_ ?_ | refine frk6 ?_ ?_ | refine frk7 ?_ ?_ | refine frk8 ?_ ?_ | refine frk9 ?_ ?_) <;> intro h <;> try (exfalso; omega)) | with_reducible refine quiet_and ?_ ?_ | with_reducible refine awp_drawnA mixed (by decide +kernel) ?_ | ((fail_if_success with_reducible refine stp ?_); simp -implicitDefEqProofs only [go_sem, Nat.reduceEqDiff, Nat.reduceAdd, Nat.reduceLT, Nat.reduceMul, Nat.reduceSub, Nat.reduceLeDiff, ↓reduceIte, reduceCtorEq, ↓String.reduceEq, String.reduceNe, Int.reduceToNat, Int.reduceLT, Int.reduceLE, Int.reduceGT, Int.reduceGE, Int.reduceEq, Int.reduceNe, Int.reduceBEq, Int.reduceBNe, Int.reduceAdd, Int.reduceSub, Int.reduceMul, Int.reduceNeg,  encSc, *]))
      have HPB := Hid.mk hpb
      have np4 : p4 ≠ pb := fun e => by rw [e, hpb] at h4; cases h4
      have np5 : p5 ≠ pb := fun e => by rw [e, hpb] at h5; cases h5
      have np7 : p7 ≠ pb := fun e => by rw [e, hpb] at h7; cases h7
      have nbp : bm ≠ pb := fun e => by have g := HC.out.2.2.2.2.2.2.2.2; rw [e, hpb] at g; cases g
      have npb : pb ≠ bm := Ne.symm nbp
      have H457 := Hid.mk (And.intro h4 (And.intro h5 h7))
      clear hpb h4 h5 h7 frl fr4 fr5 fr7 frb
      refine awp_loopP 2 (fun ts m3 => Hid (Sub m m3 ∧ m3 l = some (busyOf LB) ∧ m3 p4 = some (.cells [.int .i64 n] 1) ∧ m3 p5 = some (.cells [.int .i64 h] 1) ∧ m3 p7 = some (.cells [.map bm] 1) ∧ ∃ es bs cl, m3 bm = some (.map es bs cl) ∧ MapI (GrowC (C.take (i + 1)) n h) es bs cl))
        (fun k ts m3 => ∃ (j : Nat) (t : Int) (es : List (Int × AVal)) (bs : List Nat) (cl : Nat), Hid (k = (h + 1 - t).toNat ∧ t = D - n + 1 + (j : Int) * T ∧ MapI (fun y => GrowC (C.take i) n h y ∨ PartS (x1, x2, x3, T, D, x6, x7) n h j y) es bs cl ∧ Sub m m3 ∧ m3 l = some (busyOf LB) ∧ m3 p4 = some (.cells [.int .i64 n] 1)) ∧ m3 p5 = some (.cells [.int .i64 h] 1) ∧ m3 p7 = some (.cells [.map bm] 1) ∧ m3 bm = some (.map es bs cl) ∧ m3 pb = some (.cells [.int .i64 x1, .int .i64 x2, .int .i64 x3, .int .i64 T, .int .i64 D, .int .i64 x6, .int .i64 x7] 7) ∧ ts 5 = .ptr p5 0 ∧ ts 7 = .ptr p7 0 ∧ ts 8 = .ptr pb 0 ∧ ts 9 = .int .i64 t) (h + 1 - (D - n + 1)).toNat
        ⟨0, D - n + 1, es, bs, cl, .mk ⟨rfl, by simp, HC.out.2.2.2.2.2.2.2.1.same (fun y => by simp [PartS]), ?_, ?_, ?_⟩, ?_, ?_, ?_, ?_, ttt, ttt, ttt, ttt⟩ ?_ ?_
      · intro c y hc
        have hm' := HC.out.2.2.2.2.2.1 c y hc
        rw [hupd_ne (fun e => by rw [e, HM.out.2.2.2.2.gone HL.out] at hc; cases hc), hupd_ne (fun e => by rw [e, HPB.out] at hm'; cases hm')]; exact hm'
      · rw [hupd_at, if_pos rfl]
        exact congrArg some (by rw [HLB.out]; rfl)
      · rw [hupd_ne l4, hupd_ne np4]; exact H457.out.1
      · rw [hupd_ne l5, hupd_ne np5]; exact H457.out.2.1
      · rw [hupd_ne l7, hupd_ne np7]; exact H457.out.2.2
      · rw [hupd_ne lb, hupd_ne nbp]; exact HC.out.2.2.2.2.2.2.2.2
      · rw [hupd_ne (fun e => by have g := HC.out.2.2.2.2.2.2.1; rw [← e, HPB.out] at g; cases g), hupd_at, if_pos rfl]
      · rintro k ts m3 ⟨j, t, es3, bs3, cl3, H, g5, g7, gb, gp, t5, t7, t8, t9⟩
        have ht1 : 1 ≤ t := by
          have h1 : 0 ≤ (j : Int) * T := Int.mul_nonneg (by omega) (by have := HT.out; omega)
          have := H.out.2.1; have := HT.out; omega
        have w3 : imx t 1 = t := by unfold imx; rw [if_neg (by omega)]
        obtain ⟨es4, bs4, cl4, hput, hmi4⟩ := mapI_put H.out.2.2.1 t (.bool true)
        have HI := Hid.mk (And.intro ht1 hmi4)
        clear ht1 hmi4
        by_cases hth : t ≤ h
        · have w4 : IntKind.i64.wrap (t + T) = t + T := by have := HT.out; have := HI.out.1; exact wrap_i64 (by omega) (by omega)
          repeat' (first | exact tf0 ‹_› | exact tf1 ‹_› | exact False.elim ‹_› | (with_reducible refine Al.intro ?_; intro pb hpb; (try simp only [hupd_none'] at hpb); (repeat rcases hpb with ⟨⟨hpx, hpy⟩, hpb⟩)) | with_reducible refine need ?_ | ((with_reducible first | refine frk0 ?_ ?_ | refine frk1 ?_ ?_ | refine frk2 ?_ ?_ | refine frk3 ?_ ?_ | refine frk4 ?_ ?_ | refine frk5 ?_ ?_ | refine frk6 ?_ ?_ | refine frk7 ?_ ?_ | refine frk8 ?_ ?_ | refine frk9 ?_ ?_) <;> intro h <;> try (exfalso; omega)) | with_reducible refine quiet_and ?_ ?_ | with_reducible refine awp_drawnA mixed (by decide +kernel) ?_ | ((fail_if_success with_reducible refine stp ?_); simp -implicitDefEqProofs only [go_sem, Nat.reduceEqDiff, Nat.reduceAdd, Nat.reduceLT, Nat.reduceMul, Nat.reduceSub, Nat.reduceLeDiff, ↓reduceIte, reduceCtorEq, ↓String.reduceEq, String.reduceNe, Int.reduceToNat, Int.reduceLT, Int.reduceLE, Int.reduceGT, Int.reduceGE, Int.reduceEq, Int.reduceNe, Int.reduceBEq, Int.reduceBNe, Int.reduceAdd, Int.reduceSub, Int.reduceMul, Int.reduceNeg,  *]))
          have hps := fun y => part_step (x1, x2, x3, T, D, x6, x7) n h j y (by show D - n + 1 + (j : Int) * T ≤ h; rw [← H.out.2.1]; exact hth)
          exact Again.intro ⟨(h + 1 - (t + T)).toNat, by have := H.out.1; have := HT.out; omega, _, Sub.refl _, j + 1, t + T, es4, bs4, cl4, .mk ⟨rfl, by rw [H.out.2.1, Int.natCast_add, Int.add_mul]; simp; omega, HI.out.2.same (fun y => by rw [hps y, or_assoc, H.out.2.1]), fun c y hc => by rw [hupd_ne (fun e => by rw [e, HE.out.2.2.1] at hc; cases hc)]; exact H.out.2.2.2.1 c y hc, by rw [hupd_ne lb.symm]; exact H.out.2.2.2.2.1, by rw [hupd_ne n4b]; exact H.out.2.2.2.2.2⟩, by rw [hupd_ne n5b]; exact g5, by rw [hupd_ne n7b]; exact g7, by rw [hupd_at, if_pos rfl], by rw [hupd_ne npb]; exact gp, (by first | (simp only [upd, put, Nat.reduceEqDiff, ↓reduceIte, t5]; done) | (simp [upd, put, t5]; done) | rfl | (simp [upd, put, t5]; rfl)), (by first | (simp only [upd, put, Nat.reduceEqDiff, ↓reduceIte, t7]; done) | (simp [upd, put, t7]; done) | rfl | (simp [upd, put, t7]; rfl)), (by first | (simp only [upd, put, Nat.reduceEqDiff, ↓reduceIte, t8]; done) | (simp [upd, put, t8]; done) | rfl | (simp [upd, put, t8]; rfl)), ttt⟩
        · repeat' (first | exact tf0 ‹_› | exact tf1 ‹_› | exact False.elim ‹_› | (with_reducible refine Al.intro ?_; intro pb hpb; (try simp only [hupd_none'] at hpb); (repeat rcases hpb with ⟨⟨hpx, hpy⟩, hpb⟩)) | with_reducible refine need ?_ | ((with_reducible first | refine frk0 ?_ ?_ | refine frk1 ?_ ?_ | refine frk2 ?_ ?_ | refine frk3 ?_ ?_ | refine frk4 ?_ ?_ | refine frk5 ?_ ?_ | refine frk6 ?_ ?_ | refine frk7 ?_ ?_ | refine frk8 ?_ ?_ | refine frk9 ?_ ?_) <;> intro h <;> try (exfalso; omega)) | with_reducible refine quiet_and ?_ ?_ | with_reducible refine awp_drawnA mixed (by decide +kernel) ?_ | ((fail_if_success with_reducible refine stp ?_); simp -implicitDefEqProofs only [go_sem, Nat.reduceEqDiff, Nat.reduceAdd, Nat.reduceLT, Nat.reduceMul, Nat.reduceSub, Nat.reduceLeDiff, ↓reduceIte, reduceCtorEq, ↓String.reduceEq, String.reduceNe, Int.reduceToNat, Int.reduceLT, Int.reduceLE, Int.reduceGT, Int.reduceGE, Int.reduceEq, Int.reduceNe, Int.reduceBEq, Int.reduceBNe, Int.reduceAdd, Int.reduceSub, Int.reduceMul, Int.reduceNeg,  *]))
          have hpa := fun y => part_all (x1, x2, x3, T, D, x6, x7) n h j y HC.out.1 (by have := HT.out; show 0 < T; omega) (by show ¬ D - n + 1 + (j : Int) * T ≤ h; rw [← H.out.2.1]; exact hth)
          exact Again.intro (.mk ⟨H.out.2.2.2.1, H.out.2.2.2.2.1, H.out.2.2.2.2.2, g5, g7, es3, bs3, cl3, gb, H.out.2.2.1.same (fun y => by rw [hpa y, HC.out.2.2.2.2.1 y])⟩)
      · rintro ts m3 H
        repeat' (first | exact tf0 ‹_› | exact tf1 ‹_› | exact False.elim ‹_› | (with_reducible refine Al.intro ?_; intro pb hpb; (try simp only [hupd_none'] at hpb); (repeat rcases hpb with ⟨⟨hpx, hpy⟩, hpb⟩)) | with_reducible refine need ?_ | ((with_reducible first | refine frk0 ?_ ?_ | refine frk1 ?_ ?_ | refine frk2 ?_ ?_ | refine frk3 ?_ ?_ | refine frk4 ?_ ?_ | refine frk5 ?_ ?_ | refine frk6 ?_ ?_ | refine frk7 ?_ ?_ | refine frk8 ?_ ?_ | refine frk9 ?_ ?_) <;> intro h <;> try (exfalso; omega)) | with_reducible refine quiet_and ?_ ?_ | with_reducible refine awp_drawnA mixed (by decide +kernel) ?_ | ((fail_if_success with_reducible refine stp ?_); simp -implicitDefEqProofs only [go_sem, Nat.reduceEqDiff, Nat.reduceAdd, Nat.reduceLT, Nat.reduceMul, Nat.reduceSub, Nat.reduceLeDiff, ↓reduceIte, reduceCtorEq, ↓String.reduceEq, String.reduceNe, Int.reduceToNat, Int.reduceLT, Int.reduceLE, Int.reduceGT, Int.reduceGE, Int.reduceEq, Int.reduceNe, Int.reduceBEq, Int.reduceBNe, Int.reduceAdd, Int.reduceSub, Int.reduceMul, Int.reduceNeg,  *]))
        have hlb3 : m3 l = _ := H.out.2.1.trans (congrArg (fun b => some (busyOf b)) HLB.out)
        obtain ⟨es4, bs4, cl4, hb4, hm4⟩ := H.out.2.2.2.2.2
        refine ⟨hlb3, rfl, by rw [hupd_at, if_pos rfl]; exact (congrArg some HLB.out).symm, by rw [hupd_ne l4]; exact H.out.2.2.1, by rw [hupd_ne l5]; exact H.out.2.2.2.1, by rw [hupd_ne l7]; exact H.out.2.2.2.2.1, ⟨es4, bs4, cl4, by rw [hupd_ne lb]; exact hb4, hm4⟩, fun c y hc => ?_⟩
        rw [hupd_ne (fun e => by rw [e, HM.out.2.2.2.2.gone HL.out] at hc; cases hc)]; exact H.out.1 c y hc
    · rintro i hi hc m' ⟨h1, h4, h5, h7, ⟨es, bs, cl, hbm, hmi⟩, hsm⟩
      exact ⟨h1, h4, h5, h7, ⟨es, bs, cl, hbm, hmi.same (fun y => by rw [grow_take C n h i hi y]; exact ⟨.inl, fun g => g.elim id (fun g => absurd g.1 hc)⟩)⟩, hsm⟩
    · rintro m' ⟨h1, h4, h5, h7, ⟨es, bs, cl, hbm, hmi⟩, hsm⟩
      rw [List.take_length] at hmi
      obtain ⟨M1, hM⟩ : ∃ M1 : Heap, ∀ c, M1 c = if c = l then none else m' c := ⟨_, fun _ => rfl⟩
      have s1 : Sub M1 m' := fun c x h => by
        rw [hM] at h
        split at h
        · cases h
        · exact h
      have s2 : Sub m M1 := fun c x h => by
        rw [hM, if_neg (fun e => by rw [e, HM.out.2.2.2.2.gone HL.out] at h; cases h)]
        exact hsm _ _ h
      have k7 : M1 p7 = some (.cells [.map bm] 1) := by rw [hM, if_neg l7]; exact h7
      have kb : M1 bm = some (.map es bs cl) := by rw [hM, if_neg lb]; exact hbm
      have hlen : es.length ≤ 65536 := by
        have := nodup_int 65536 _ hmi.2.2.2.1 (fun x hx => by have := growC_in HG.out.1 ((hmi.2.2.2.2 x).1 hx); have := HG.out.2.2.1; omega)
        rwa [List.length_map] at this
      have HZ := Hid.mk (And.intro hmi (And.intro hlen (And.intro s2 kb)))
      refine ⟨_, _, _, _, _, _, _, M1, h1.trans (congrArg some HLB.out), by decide, s1, by rw [hM, if_pos rfl], ?_⟩
      clear h1 h4 h5 h7 hbm hmi hsm s1 s2 kb hlen hM
      show blockA 0 _ _ _ _
      repeat' (first | exact tf0 ‹_› | exact tf1 ‹_› | exact False.elim ‹_› | (with_reducible refine Al.intro ?_; intro pb hpb; (try simp only [hupd_none'] at hpb); (repeat rcases hpb with ⟨⟨hpx, hpy⟩, hpb⟩)) | with_reducible refine need ?_ | ((with_reducible first | refine frk0 ?_ ?_ | refine frk1 ?_ ?_ | refine frk2 ?_ ?_ | refine frk3 ?_ ?_ | refine frk4 ?_ ?_ | refine frk5 ?_ ?_ | refine frk6 ?_ ?_ | refine frk7 ?_ ?_ | refine frk8 ?_ ?_ | refine frk9 ?_ ?_) <;> intro h <;> try (exfalso; omega)) | with_reducible refine quiet_and ?_ ?_ | with_reducible refine awp_drawnA mixed (by decide +kernel) ?_ | ((fail_if_success with_reducible refine stp ?_); simp -implicitDefEqProofs only [go_sem, Nat.reduceEqDiff, Nat.reduceAdd, Nat.reduceLT, Nat.reduceMul, Nat.reduceSub, Nat.reduceLeDiff, ↓reduceIte, reduceCtorEq, ↓String.reduceEq, String.reduceNe, Int.reduceToNat, Int.reduceLT, Int.reduceLE, Int.reduceGT, Int.reduceGE, Int.reduceEq, Int.reduceNe, Int.reduceBEq, Int.reduceBNe, Int.reduceAdd, Int.reduceSub, Int.reduceMul, Int.reduceNeg,  *]))
      refine mkeys_spec G bm M1 _ (fun p hp => ?_)
      have HP := Hid.mk hp
      clear hp k7
      repeat' (first | exact tf0 ‹_› | exact tf1 ‹_› | exact False.elim ‹_› | (with_reducible refine Al.intro ?_; intro pb hpb; (try simp only [hupd_none'] at hpb); (repeat rcases hpb with ⟨⟨hpx, hpy⟩, hpb⟩)) | with_reducible refine need ?_ | ((with_reducible first | refine frk0 ?_ ?_ | refine frk1 ?_ ?_ | refine frk2 ?_ ?_ | refine frk3 ?_ ?_ | refine frk4 ?_ ?_ | refine frk5 ?_ ?_ | refine frk6 ?_ ?_ | refine frk7 ?_ ?_ | refine frk8 ?_ ?_ | refine frk9 ?_ ?_) <;> intro h <;> try (exfalso; omega)) | with_reducible refine quiet_and ?_ ?_ | with_reducible refine awp_drawnA mixed (by decide +kernel) ?_ | ((fail_if_success with_reducible refine stp ?_); simp -implicitDefEqProofs only [go_sem, Nat.reduceEqDiff, Nat.reduceAdd, Nat.reduceLT, Nat.reduceMul, Nat.reduceSub, Nat.reduceLeDiff, ↓reduceIte, reduceCtorEq, ↓String.reduceEq, String.reduceNe, Int.reduceToNat, Int.reduceLT, Int.reduceLE, Int.reduceGT, Int.reduceGE, Int.reduceEq, Int.reduceNe, Int.reduceBEq, Int.reduceBNe, Int.reduceAdd, Int.reduceSub, Int.reduceMul, Int.reduceNeg,  *]))
      refine sorted_spec G es bs cl bm p HZ.out.1.1 HZ.out.1.2.2.1 (by have := HZ.out.2.1; omega) HZ.out.1.2.2.2.1 _ (by rw [hupd_at, if_pos rfl]) (by rw [hupd_ne (fun e => by have g := HZ.out.2.2.2; rw [e, HP.out] at g; cases g)]; exact HZ.out.2.2.2) (fun L v' m' a1 a2 a3 a4 a5 a6 => ?_)
      have sf : Sub m m' := subTrans (HZ.out.2.2.1.fresh (HZ.out.2.2.1.gone HP.out)) a5
      have HF := Hid.mk (HG.out.2.2.2.2 L v' m' a1 (fun x => (a2 x).trans (HZ.out.1.2.2.2.2 x)) (by have := HZ.out.2.1; omega) a4 sf (fun c hc => (HZ.out.2.2.1.fresh (HZ.out.2.2.1.gone HP.out)).gone (a6 c hc)))
      have hf := a4.slv
      clear a1 a2 a3 a4 a5 a6 sf
      rcases hf with ⟨rfl, -⟩ | ⟨b5, o5, c5, rfl⟩
      all_goals (
        repeat' (first | exact tf0 ‹_› | exact tf1 ‹_› | exact False.elim ‹_› | (with_reducible refine Al.intro ?_; intro pb hpb; (try simp only [hupd_none'] at hpb); (repeat rcases hpb with ⟨⟨hpx, hpy⟩, hpb⟩)) | with_reducible refine need ?_ | ((with_reducible first | refine frk0 ?_ ?_ | refine frk1 ?_ ?_ | refine frk2 ?_ ?_ | refine frk3 ?_ ?_ | refine frk4 ?_ ?_ | refine frk5 ?_ ?_ | refine frk6 ?_ ?_ | refine frk7 ?_ ?_ | refine frk8 ?_ ?_ | refine frk9 ?_ ?_) <;> intro h <;> try (exfalso; omega)) | with_reducible refine quiet_and ?_ ?_ | with_reducible refine awp_drawnA mixed (by decide +kernel) ?_ | ((fail_if_success with_reducible refine stp ?_); simp -implicitDefEqProofs only [go_sem, Nat.reduceEqDiff, Nat.reduceAdd, Nat.reduceLT, Nat.reduceMul, Nat.reduceSub, Nat.reduceLeDiff, ↓reduceIte, reduceCtorEq, ↓String.reduceEq, String.reduceNe, Int.reduceToNat, Int.reduceLT, Int.reduceLE, Int.reduceGT, Int.reduceGE, Int.reduceEq, Int.reduceNe, Int.reduceBEq, Int.reduceBNe, Int.reduceAdd, Int.reduceSub, Int.reduceMul, Int.reduceNeg,  *]))
        exact ⟨_, Sub.refl _, HF.out⟩))
end Go.Proofs.YtmifapnmlhchlaaDoor
namespace Go.Proofs.YtmifapnmlhchlaaDoor
open Go Go.Proofs.YtmifapnmlhchlaaDoor.Ab
open Go.Proofs (Tryd.prog)
set_option maxRecDepth 100000
theorem pair_lt {L : List Int} (h : L.Pairwise (· < ·)) {i j : Nat} (hi : i < L.length) (hj : j < L.length) (hl : L.getD j 0 < L.getD i 0) : j < i := by
  by_cases g : j < i
  · exact g
  · exfalso
    simp only [List.getD_eq_getElem?_getD, List.getElem?_eq_getElem hi, List.getElem?_eq_getElem hj, Option.getD_some] at hl
    by_cases e : i = j
    · subst e; omega
    · have := List.pairwise_iff_getElem.1 h i j hi hj (by omega); omega
theorem at_mem {L : List Int} {i : Nat} (hi : i < L.length) : L.getD i 0 ∈ L := by
  rw [List.getD_eq_getElem?_getD, List.getElem?_eq_getElem hi]; exact List.getElem_mem hi
theorem mem_at {L : List Int} {x : Int} (h : x ∈ L) : ∃ i, i < L.length ∧ L.getD i 0 = x := by
  obtain ⟨i, hi, rfl⟩ := List.getElem_of_mem h
  exact ⟨i, hi, by rw [List.getD_eq_getElem?_getD, List.getElem?_eq_getElem hi]; rfl⟩
theorem rowI_at (L : List Int) (pre post : List AVal) (i : Nat) (hi : i < L.length) (x : Int) (hx : L.getD i 0 = x) : (pre ++ (L.flatMap encI ++ post)).getD (pre.length + i) .undef = .int .i64 x := by
  rw [encI_map, List.getD_eq_getElem?_getD, List.getElem?_append_right (by omega), Nat.add_sub_cancel_left, List.getElem?_append_left (by simpa using hi)]
  rw [← hx]
  simp [hi]
theorem rowI_len (L : List Int) (pre post : List AVal) (i : Nat) (hi : i < L.length) : pre.length + i < (pre ++ (L.flatMap encI ++ post)).length := by
  rw [encI_map]; simp; omega
set_option maxHeartbeats 4000000 in
theorem ppass_spec (G : Nat → AVal) (hG : DivOK G) (C : List Stm) (hl : C.length < 9223372036854775808) (n h : Int) (v : AVal) (m : Heap) (hs : RdS C v m) (K : AVal → Heap → Prop)
    (hK : ∀ a ok m', PassR C n h a ok → Sub m m' → K (.tuple [.int .i64 a, .bool ok]) m') : CallWP Tryd.prog G 14 [v, .int .i64 n, .int .i64 h] m K := by
  have HS := Hid.mk (And.intro hs (And.intro hG (And.intro hl hK)))
  obtain ⟨b, pre, post, N, cap, hw⟩ := hs.ways rfl
  obtain ⟨c, hc⟩ : ∃ c, clampF h 1 65536 = c := ⟨_, rfl⟩
  have HC := Hid.mk hc
  clear hs hG hl hc hK
  have HP : Hid (h = c ↔ 1 ≤ h ∧ h ≤ 65536) := .mk (by rw [← clamp_in h, HC.out]; exact eq_comm)
  by_cases hq : h = c
  · have hb2 : (h != c) = false := by simpa using hq
    have HI := Hid.mk (HP.out.1 hq)
    clear hq
    rcases hw with ⟨hv, hz⟩ | ⟨hv, hb⟩ | hv
    all_goals (
      refine callWP_body Tryd.func14 rfl (N := 42) rfl (rs := [.tmp 6, .tmp 7]) rfl en_14 (of_decide_eq_true rfl) ?_
      repeat' (first | exact tf0 ‹_› | exact tf1 ‹_› | exact False.elim ‹_› | (with_reducible refine Al.intro ?_; intro pb hpb; (try simp only [hupd_none'] at hpb); (repeat rcases hpb with ⟨⟨hpx, hpy⟩, hpb⟩)) | with_reducible refine need ?_ | ((with_reducible first | refine frk0 ?_ ?_ | refine frk1 ?_ ?_ | refine frk2 ?_ ?_ | refine frk3 ?_ ?_ | refine frk4 ?_ ?_ | refine frk5 ?_ ?_ | refine frk6 ?_ ?_ | refine frk7 ?_ ?_ | refine frk8 ?_ ?_ | refine frk9 ?_ ?_) <;> intro h <;> try (exfalso; omega)) | with_reducible refine quiet_and ?_ ?_ | with_reducible refine awp_drawnA mixed (by decide +kernel) ?_ | ((fail_if_success with_reducible refine stp ?_); simp -implicitDefEqProofs only [go_sem, Nat.reduceEqDiff, Nat.reduceAdd, Nat.reduceLT, Nat.reduceMul, Nat.reduceSub, Nat.reduceLeDiff, ↓reduceIte, reduceCtorEq, ↓String.reduceEq, String.reduceNe, Int.reduceToNat, Int.reduceLT, Int.reduceLE, Int.reduceGT, Int.reduceGE, Int.reduceEq, Int.reduceNe, Int.reduceBEq, Int.reduceBNe, Int.reduceAdd, Int.reduceSub, Int.reduceMul, Int.reduceNeg,  *]))
      refine pdright_spec G C HS.out.2.2.1 n _ _ (by rw [← hv]; exact HS.out.1) _ (fun b1 hb1 => ?_)
      have HB := Hid.mk hb1
      clear hb1
      cases b1 with
      | false =>
        repeat' (first | exact tf0 ‹_› | exact tf1 ‹_› | exact False.elim ‹_› | (with_reducible refine Al.intro ?_; intro pb hpb; (try simp only [hupd_none'] at hpb); (repeat rcases hpb with ⟨⟨hpx, hpy⟩, hpb⟩)) | with_reducible refine need ?_ | ((with_reducible first | refine frk0 ?_ ?_ | refine frk1 ?_ ?_ | refine frk2 ?_ ?_ | refine frk3 ?_ ?_ | refine frk4 ?_ ?_ | refine frk5 ?_ ?_ | refine frk6 ?_ ?_ | refine frk7 ?_ ?_ | refine frk8 ?_ ?_ | refine frk9 ?_ ?_) <;> intro h <;> try (exfalso; omega)) | with_reducible refine quiet_and ?_ ?_ | with_reducible refine awp_drawnA mixed (by decide +kernel) ?_ | ((fail_if_success with_reducible refine stp ?_); simp -implicitDefEqProofs only [go_sem, Nat.reduceEqDiff, Nat.reduceAdd, Nat.reduceLT, Nat.reduceMul, Nat.reduceSub, Nat.reduceLeDiff, ↓reduceIte, reduceCtorEq, ↓String.reduceEq, String.reduceNe, Int.reduceToNat, Int.reduceLT, Int.reduceLE, Int.reduceGT, Int.reduceGE, Int.reduceEq, Int.reduceNe, Int.reduceBEq, Int.reduceBNe, Int.reduceAdd, Int.reduceSub, Int.reduceMul, Int.reduceNeg,  *]))
        exact ⟨_, Sub.refl _, HS.out.2.2.2 0 false _ (.inl ⟨(fun hh => by have := HB.out.2 hh.1; cases this), rfl, rfl⟩) (Sub.refl _)⟩
      | true =>
        have HR := Hid.mk (HB.out.1 rfl)
        repeat' (first | exact tf0 ‹_› | exact tf1 ‹_› | exact False.elim ‹_› | (with_reducible refine Al.intro ?_; intro pb hpb; (try simp only [hupd_none'] at hpb); (repeat rcases hpb with ⟨⟨hpx, hpy⟩, hpb⟩)) | with_reducible refine need ?_ | ((with_reducible first | refine frk0 ?_ ?_ | refine frk1 ?_ ?_ | refine frk2 ?_ ?_ | refine frk3 ?_ ?_ | refine frk4 ?_ ?_ | refine frk5 ?_ ?_ | refine frk6 ?_ ?_ | refine frk7 ?_ ?_ | refine frk8 ?_ ?_ | refine frk9 ?_ ?_) <;> intro h <;> try (exfalso; omega)) | with_reducible refine quiet_and ?_ ?_ | with_reducible refine awp_drawnA mixed (by decide +kernel) ?_ | ((fail_if_success with_reducible refine stp ?_); simp -implicitDefEqProofs only [go_sem, Nat.reduceEqDiff, Nat.reduceAdd, Nat.reduceLT, Nat.reduceMul, Nat.reduceSub, Nat.reduceLeDiff, ↓reduceIte, reduceCtorEq, ↓String.reduceEq, String.reduceNe, Int.reduceToNat, Int.reduceLT, Int.reduceLE, Int.reduceGT, Int.reduceGE, Int.reduceEq, Int.reduceNe, Int.reduceBEq, Int.reduceBNe, Int.reduceAdd, Int.reduceSub, Int.reduceMul, Int.reduceNeg,  *]))
        refine CallWP.to (clamp_spec G h 1 65536 _) ?_
        rw [HC.out]
        repeat' (first | exact tf0 ‹_› | exact tf1 ‹_› | exact False.elim ‹_› | (with_reducible refine Al.intro ?_; intro pb hpb; (try simp only [hupd_none'] at hpb); (repeat rcases hpb with ⟨⟨hpx, hpy⟩, hpb⟩)) | with_reducible refine need ?_ | ((with_reducible first | refine frk0 ?_ ?_ | refine frk1 ?_ ?_ | refine frk2 ?_ ?_ | refine frk3 ?_ ?_ | refine frk4 ?_ ?_ | refine frk5 ?_ ?_ | refine frk6 ?_ ?_ | refine frk7 ?_ ?_ | refine frk8 ?_ ?_ | refine frk9 ?_ ?_) <;> intro h <;> try (exfalso; omega)) | with_reducible refine quiet_and ?_ ?_ | with_reducible refine awp_drawnA mixed (by decide +kernel) ?_ | ((fail_if_success with_reducible refine stp ?_); simp -implicitDefEqProofs only [go_sem, Nat.reduceEqDiff, Nat.reduceAdd, Nat.reduceLT, Nat.reduceMul, Nat.reduceSub, Nat.reduceLeDiff, ↓reduceIte, reduceCtorEq, ↓String.reduceEq, String.reduceNe, Int.reduceToNat, Int.reduceLT, Int.reduceLE, Int.reduceGT, Int.reduceGE, Int.reduceEq, Int.reduceNe, Int.reduceBEq, Int.reduceBNe, Int.reduceAdd, Int.reduceSub, Int.reduceMul, Int.reduceNeg,  *]))
        refine CallWP.to (pblock_spec G HS.out.2.1 C HS.out.2.2.1 _ _ (by rw [← hv]; exact HS.out.1)) ?_
        obtain ⟨bk, hbk⟩ : ∃ bk, blkF C = bk := ⟨_, rfl⟩
        have hbi := blk_in C
        rw [hbk] at hbi ⊢
        have HBK := Hid.mk (And.intro hbk hbi)
        clear hbk hbi
        repeat' (first | exact tf0 ‹_› | exact tf1 ‹_› | exact False.elim ‹_› | (with_reducible refine Al.intro ?_; intro pb hpb; (try simp only [hupd_none'] at hpb); (repeat rcases hpb with ⟨⟨hpx, hpy⟩, hpb⟩)) | with_reducible refine need ?_ | ((with_reducible first | refine frk0 ?_ ?_ | refine frk1 ?_ ?_ | refine frk2 ?_ ?_ | refine frk3 ?_ ?_ | refine frk4 ?_ ?_ | refine frk5 ?_ ?_ | refine frk6 ?_ ?_ | refine frk7 ?_ ?_ | refine frk8 ?_ ?_ | refine frk9 ?_ ?_) <;> intro h <;> try (exfalso; omega)) | with_reducible refine quiet_and ?_ ?_ | with_reducible refine awp_drawnA mixed (by decide +kernel) ?_ | ((fail_if_success with_reducible refine stp ?_); simp -implicitDefEqProofs only [go_sem, Nat.reduceEqDiff, Nat.reduceAdd, Nat.reduceLT, Nat.reduceMul, Nat.reduceSub, Nat.reduceLeDiff, ↓reduceIte, reduceCtorEq, ↓String.reduceEq, String.reduceNe, Int.reduceToNat, Int.reduceLT, Int.reduceLE, Int.reduceGT, Int.reduceGE, Int.reduceEq, Int.reduceNe, Int.reduceBEq, Int.reduceBNe, Int.reduceAdd, Int.reduceSub, Int.reduceMul, Int.reduceNeg,  *]))
        refine grows_spec G C n h HR.out HI.out.1 HI.out.2 _ _ (by rw [← hv]; exact HS.out.1) _ (fun L v' m1 a1 a2 a3 a4 a5 a6 => ?_)
        have HL := Hid.mk (And.intro a1 (And.intro a2 (And.intro a3 a5)))
        clear a1 a2 a3 a5 a6
        rcases a4 with ⟨rfl, rfl⟩ | ⟨b5, blk5, hb5, pre5, post5, N5, cap5, rfl, rfl, hN5, hc5⟩
        · repeat' (first | exact tf0 ‹_› | exact tf1 ‹_› | exact False.elim ‹_› | (with_reducible refine Al.intro ?_; intro pb hpb; (try simp only [hupd_none'] at hpb); (repeat rcases hpb with ⟨⟨hpx, hpy⟩, hpb⟩)) | with_reducible refine need ?_ | ((with_reducible first | refine frk0 ?_ ?_ | refine frk1 ?_ ?_ | refine frk2 ?_ ?_ | refine frk3 ?_ ?_ | refine frk4 ?_ ?_ | refine frk5 ?_ ?_ | refine frk6 ?_ ?_ | refine frk7 ?_ ?_ | refine frk8 ?_ ?_ | refine frk9 ?_ ?_) <;> intro h <;> try (exfalso; omega)) | with_reducible refine quiet_and ?_ ?_ | with_reducible refine awp_drawnA mixed (by decide +kernel) ?_ | ((fail_if_success with_reducible refine stp ?_); simp -implicitDefEqProofs only [go_sem, Nat.reduceEqDiff, Nat.reduceAdd, Nat.reduceLT, Nat.reduceMul, Nat.reduceSub, Nat.reduceLeDiff, ↓reduceIte, reduceCtorEq, ↓String.reduceEq, String.reduceNe, Int.reduceToNat, Int.reduceLT, Int.reduceLE, Int.reduceGT, Int.reduceGE, Int.reduceEq, Int.reduceNe, Int.reduceBEq, Int.reduceBNe, Int.reduceAdd, Int.reduceSub, Int.reduceMul, Int.reduceNeg,  *]))
          refine awp_loopP 0 (fun ts m' => m' = m1) (fun k ts m' => m' = m1 ∧ ts 27 = .int .i64 0 ∧ ts 28 = .int .i64 0) 0 ⟨rfl, (by first | (simp only [upd, put, Nat.reduceEqDiff, ↓reduceIte, hv]; done) | (simp [upd, put, hv]; done) | rfl | (simp [upd, put, hv]; rfl)), ttt⟩ ?_ ?_
          · rintro k ts m2 ⟨hm2, t27, t28⟩
            subst m2
            repeat' (first | exact tf0 ‹_› | exact tf1 ‹_› | exact False.elim ‹_› | (with_reducible refine Al.intro ?_; intro pb hpb; (try simp only [hupd_none'] at hpb); (repeat rcases hpb with ⟨⟨hpx, hpy⟩, hpb⟩)) | with_reducible refine need ?_ | ((with_reducible first | refine frk0 ?_ ?_ | refine frk1 ?_ ?_ | refine frk2 ?_ ?_ | refine frk3 ?_ ?_ | refine frk4 ?_ ?_ | refine frk5 ?_ ?_ | refine frk6 ?_ ?_ | refine frk7 ?_ ?_ | refine frk8 ?_ ?_ | refine frk9 ?_ ?_) <;> intro h <;> try (exfalso; omega)) | with_reducible refine quiet_and ?_ ?_ | with_reducible refine awp_drawnA mixed (by decide +kernel) ?_ | ((fail_if_success with_reducible refine stp ?_); simp -implicitDefEqProofs only [go_sem, Nat.reduceEqDiff, Nat.reduceAdd, Nat.reduceLT, Nat.reduceMul, Nat.reduceSub, Nat.reduceLeDiff, ↓reduceIte, reduceCtorEq, ↓String.reduceEq, String.reduceNe, Int.reduceToNat, Int.reduceLT, Int.reduceLE, Int.reduceGT, Int.reduceGE, Int.reduceEq, Int.reduceNe, Int.reduceBEq, Int.reduceBNe, Int.reduceAdd, Int.reduceSub, Int.reduceMul, Int.reduceNeg,  *]))
            exact Again.intro rfl
          · rintro ts m2 hm2
            subst m2
            repeat' (first | exact tf0 ‹_› | exact tf1 ‹_› | exact False.elim ‹_› | (with_reducible refine Al.intro ?_; intro pb hpb; (try simp only [hupd_none'] at hpb); (repeat rcases hpb with ⟨⟨hpx, hpy⟩, hpb⟩)) | with_reducible refine need ?_ | ((with_reducible first | refine frk0 ?_ ?_ | refine frk1 ?_ ?_ | refine frk2 ?_ ?_ | refine frk3 ?_ ?_ | refine frk4 ?_ ?_ | refine frk5 ?_ ?_ | refine frk6 ?_ ?_ | refine frk7 ?_ ?_ | refine frk8 ?_ ?_ | refine frk9 ?_ ?_) <;> intro h <;> try (exfalso; omega)) | with_reducible refine quiet_and ?_ ?_ | with_reducible refine awp_drawnA mixed (by decide +kernel) ?_ | ((fail_if_success with_reducible refine stp ?_); simp -implicitDefEqProofs only [go_sem, Nat.reduceEqDiff, Nat.reduceAdd, Nat.reduceLT, Nat.reduceMul, Nat.reduceSub, Nat.reduceLeDiff, ↓reduceIte, reduceCtorEq, ↓String.reduceEq, String.reduceNe, Int.reduceToNat, Int.reduceLT, Int.reduceLE, Int.reduceGT, Int.reduceGE, Int.reduceEq, Int.reduceNe, Int.reduceBEq, Int.reduceBNe, Int.reduceAdd, Int.reduceSub, Int.reduceMul, Int.reduceNeg,  *]))
            exact ⟨_, Sub.refl _, HS.out.2.2.2 0 true _ (pass_true HR.out HI.out.1 HI.out.2 (fun x hx => by have := (HL.out.2.1 x).2 hx; cases this)) HL.out.2.2.2⟩
        · obtain ⟨LL, hLL⟩ : ∃ LL, LL = L.length := ⟨_, rfl⟩
          rw [← hLL]
          have HLL := Hid.mk hLL
          have hL3 : LL ≤ 65536 := by have := HL.out.2.2.1; omega
          clear hLL
          repeat' (first | exact tf0 ‹_› | exact tf1 ‹_› | exact False.elim ‹_› | (with_reducible refine Al.intro ?_; intro pb hpb; (try simp only [hupd_none'] at hpb); (repeat rcases hpb with ⟨⟨hpx, hpy⟩, hpb⟩)) | with_reducible refine need ?_ | ((with_reducible first | refine frk0 ?_ ?_ | refine frk1 ?_ ?_ | refine frk2 ?_ ?_ | refine frk3 ?_ ?_ | refine frk4 ?_ ?_ | refine frk5 ?_ ?_ | refine frk6 ?_ ?_ | refine frk7 ?_ ?_ | refine frk8 ?_ ?_ | refine frk9 ?_ ?_) <;> intro h <;> try (exfalso; omega)) | with_reducible refine quiet_and ?_ ?_ | with_reducible refine awp_drawnA mixed (by decide +kernel) ?_ | ((fail_if_success with_reducible refine stp ?_); simp -implicitDefEqProofs only [go_sem, Nat.reduceEqDiff, Nat.reduceAdd, Nat.reduceLT, Nat.reduceMul, Nat.reduceSub, Nat.reduceLeDiff, ↓reduceIte, reduceCtorEq, ↓String.reduceEq, String.reduceNe, Int.reduceToNat, Int.reduceLT, Int.reduceLE, Int.reduceGT, Int.reduceGE, Int.reduceEq, Int.reduceNe, Int.reduceBEq, Int.reduceBNe, Int.reduceAdd, Int.reduceSub, Int.reduceMul, Int.reduceNeg,  *]))
          refine awp_loopP 0 (fun ts m' => m' = m1 ∧ Hid (∀ x, GrowC C n h x → ¬ (x < blkF C + demF C x n))) (fun k ts m' => ∃ i : Nat, Hid (k = LL - i ∧ i ≤ LL ∧ ∀ j, j < i → ¬ (L.getD j 0 < blkF C + demF C (L.getD j 0) n)) ∧ m' = m1 ∧ ts 0 = v ∧ ts 1 = .int .i64 n ∧ ts 8 = .int .i64 bk ∧ ts 26 = .slice b5 pre5.length LL cap5 ∧ ts 27 = .int .i64 (LL : Nat) ∧ ts 28 = .int .i64 (i : Nat)) LL
            ⟨0, .mk ⟨rfl, Nat.zero_le _, fun j hj => absurd hj (Nat.not_lt_zero j)⟩, rfl, (by first | (simp only [upd, put, Nat.reduceEqDiff, ↓reduceIte, hv]; done) | (simp [upd, put, hv]; done) | rfl | (simp [upd, put, hv]; rfl)), ttt, ttt, ttt, ttt, ttt⟩ ?_ ?_
          · rintro k ts m2 ⟨i, H, hm2, t0, t1, t8, t26, t27, t28⟩
            subst m2
            by_cases hi : i < LL
            · have lt : (i : Int) < (LL : Int) := by omega
              have hiL : i < L.length := by have := HLL.out; omega
              obtain ⟨y, hy⟩ : ∃ y, L.getD i 0 = y := ⟨_, rfl⟩
              have g1 := rowI_at L pre5 post5 i hiL y hy
              have l1 := rowI_len L pre5 post5 i hiL
              have hyg : GrowC C n h y := (HL.out.2.1 y).1 (by rw [← hy]; exact at_mem hiL)
              have hyi := growC_in HR.out hyg
              have w1 : IntKind.i64.wrap ((i : Int) + 1) = ((i + 1 : Nat) : Int) := by rw [wrap_i64 (by omega) (by omega)]; omega
              have hdi := demF_in (C := C) (n := n) HR.out.2.2.1 hyi.1 (by have := HI.out; omega) HR.out.2.1.1 HR.out.2.1.2
              have hc64 := HR.out.1
              have HD := Hid.mk (pof_spec G HS.out.2.1 C y n HR.out hyi.1 (by have := HI.out; omega) v m1 (HS.out.1.into HL.out.2.2.2))
              obtain ⟨d, hd⟩ : ∃ d, demF C y n = d := ⟨_, rfl⟩
              rw [hd] at HD hdi
              rw [hv] at HD
              have w2 : IntKind.i64.wrap (bk + d) = bk + d := by have := HBK.out; exact wrap_i64 (by omega) (by omega)
              have HY := Hid.mk (And.intro hy (And.intro hyg (And.intro hyi (And.intro hd hiL))))
              clear hy hyg hyi hd hdi hc64 hiL
              by_cases hf : y < bk + d
              · repeat' (first | exact tf0 ‹_› | exact tf1 ‹_› | exact False.elim ‹_› | (with_reducible refine Al.intro ?_; intro pb hpb; (try simp only [hupd_none'] at hpb); (repeat rcases hpb with ⟨⟨hpx, hpy⟩, hpb⟩)) | with_reducible refine need ?_ | ((with_reducible first | refine frk0 ?_ ?_ | refine frk1 ?_ ?_ | refine frk2 ?_ ?_ | refine frk3 ?_ ?_ | refine frk4 ?_ ?_ | refine frk5 ?_ ?_ | refine frk6 ?_ ?_ | refine frk7 ?_ ?_ | refine frk8 ?_ ?_ | refine frk9 ?_ ?_) <;> intro h <;> try (exfalso; omega)) | with_reducible refine quiet_and ?_ ?_ | with_reducible refine awp_drawnA mixed (by decide +kernel) ?_ | ((fail_if_success with_reducible refine stp ?_); simp -implicitDefEqProofs only [go_sem, Nat.reduceEqDiff, Nat.reduceAdd, Nat.reduceLT, Nat.reduceMul, Nat.reduceSub, Nat.reduceLeDiff, ↓reduceIte, reduceCtorEq, ↓String.reduceEq, String.reduceNe, Int.reduceToNat, Int.reduceLT, Int.reduceLE, Int.reduceGT, Int.reduceGE, Int.reduceEq, Int.reduceNe, Int.reduceBEq, Int.reduceBNe, Int.reduceAdd, Int.reduceSub, Int.reduceMul, Int.reduceNeg,  *]))
                refine CallWP.to HD.out ?_
                repeat' (first | exact tf0 ‹_› | exact tf1 ‹_› | exact False.elim ‹_› | (with_reducible refine Al.intro ?_; intro pb hpb; (try simp only [hupd_none'] at hpb); (repeat rcases hpb with ⟨⟨hpx, hpy⟩, hpb⟩)) | with_reducible refine need ?_ | ((with_reducible first | refine frk0 ?_ ?_ | refine frk1 ?_ ?_ | refine frk2 ?_ ?_ | refine frk3 ?_ ?_ | refine frk4 ?_ ?_ | refine frk5 ?_ ?_ | refine frk6 ?_ ?_ | refine frk7 ?_ ?_ | refine frk8 ?_ ?_ | refine frk9 ?_ ?_) <;> intro h <;> try (exfalso; omega)) | with_reducible refine quiet_and ?_ ?_ | with_reducible refine awp_drawnA mixed (by decide +kernel) ?_ | ((fail_if_success with_reducible refine stp ?_); simp -implicitDefEqProofs only [go_sem, Nat.reduceEqDiff, Nat.reduceAdd, Nat.reduceLT, Nat.reduceMul, Nat.reduceSub, Nat.reduceLeDiff, ↓reduceIte, reduceCtorEq, ↓String.reduceEq, String.reduceNe, Int.reduceToNat, Int.reduceLT, Int.reduceLE, Int.reduceGT, Int.reduceGE, Int.reduceEq, Int.reduceNe, Int.reduceBEq, Int.reduceBNe, Int.reduceAdd, Int.reduceSub, Int.reduceMul, Int.reduceNeg,  *]))
                refine ⟨_, Sub.refl _, HS.out.2.2.2 y false _ (pass_false HR.out HI.out.1 HI.out.2 HY.out.2.1 (by rw [HY.out.2.2.2.1, HBK.out.1]; exact hf) (fun z hz hzy => ?_)) HL.out.2.2.2⟩
                obtain ⟨j, hj, hjz⟩ := mem_at ((HL.out.2.1 z).2 hz)
                have hji : j < i := pair_lt HL.out.1 HY.out.2.2.2.2 hj (by rw [hjz, HY.out.1]; exact hzy)
                have := H.out.2.2 j hji
                rwa [hjz] at this
              · repeat' (first | exact tf0 ‹_› | exact tf1 ‹_› | exact False.elim ‹_› | (with_reducible refine Al.intro ?_; intro pb hpb; (try simp only [hupd_none'] at hpb); (repeat rcases hpb with ⟨⟨hpx, hpy⟩, hpb⟩)) | with_reducible refine need ?_ | ((with_reducible first | refine frk0 ?_ ?_ | refine frk1 ?_ ?_ | refine frk2 ?_ ?_ | refine frk3 ?_ ?_ | refine frk4 ?_ ?_ | refine frk5 ?_ ?_ | refine frk6 ?_ ?_ | refine frk7 ?_ ?_ | refine frk8 ?_ ?_ | refine frk9 ?_ ?_) <;> intro h <;> try (exfalso; omega)) | with_reducible refine quiet_and ?_ ?_ | with_reducible refine awp_drawnA mixed (by decide +kernel) ?_ | ((fail_if_success with_reducible refine stp ?_); simp -implicitDefEqProofs only [go_sem, Nat.reduceEqDiff, Nat.reduceAdd, Nat.reduceLT, Nat.reduceMul, Nat.reduceSub, Nat.reduceLeDiff, ↓reduceIte, reduceCtorEq, ↓String.reduceEq, String.reduceNe, Int.reduceToNat, Int.reduceLT, Int.reduceLE, Int.reduceGT, Int.reduceGE, Int.reduceEq, Int.reduceNe, Int.reduceBEq, Int.reduceBNe, Int.reduceAdd, Int.reduceSub, Int.reduceMul, Int.reduceNeg,  *]))
                refine CallWP.to HD.out ?_
                repeat' (first | exact tf0 ‹_› | exact tf1 ‹_› | exact False.elim ‹_› | (with_reducible refine Al.intro ?_; intro pb hpb; (try simp only [hupd_none'] at hpb); (repeat rcases hpb with ⟨⟨hpx, hpy⟩, hpb⟩)) | with_reducible refine need ?_ | ((with_reducible first | refine frk0 ?_ ?_ | refine frk1 ?_ ?_ | refine frk2 ?_ ?_ | refine frk3 ?_ ?_ | refine frk4 ?_ ?_ | refine frk5 ?_ ?_ | refine frk6 ?_ ?_ | refine frk7 ?_ ?_ | refine frk8 ?_ ?_ | refine frk9 ?_ ?_) <;> intro h <;> try (exfalso; omega)) | with_reducible refine quiet_and ?_ ?_ | with_reducible refine awp_drawnA mixed (by decide +kernel) ?_ | ((fail_if_success with_reducible refine stp ?_); simp -implicitDefEqProofs only [go_sem, Nat.reduceEqDiff, Nat.reduceAdd, Nat.reduceLT, Nat.reduceMul, Nat.reduceSub, Nat.reduceLeDiff, ↓reduceIte, reduceCtorEq, ↓String.reduceEq, String.reduceNe, Int.reduceToNat, Int.reduceLT, Int.reduceLE, Int.reduceGT, Int.reduceGE, Int.reduceEq, Int.reduceNe, Int.reduceBEq, Int.reduceBNe, Int.reduceAdd, Int.reduceSub, Int.reduceMul, Int.reduceNeg,  *]))
                exact Again.intro ⟨LL - (i + 1), by have := H.out; omega, _, Sub.refl _, i + 1, .mk ⟨rfl, by omega, fun j hj => by
                  by_cases e : j = i
                  · rw [e, HY.out.1, HBK.out.1, HY.out.2.2.2.1]; exact hf
                  · exact H.out.2.2 j (by omega)⟩, rfl, (by first | (simp only [upd, put, Nat.reduceEqDiff, ↓reduceIte, t0]; done) | (simp [upd, put, t0]; done) | rfl | (simp [upd, put, t0]; rfl)), (by first | (simp only [upd, put, Nat.reduceEqDiff, ↓reduceIte, t1]; done) | (simp [upd, put, t1]; done) | rfl | (simp [upd, put, t1]; rfl)), (by first | (simp only [upd, put, Nat.reduceEqDiff, ↓reduceIte, t8]; done) | (simp [upd, put, t8]; done) | rfl | (simp [upd, put, t8]; rfl)), (by first | (simp only [upd, put, Nat.reduceEqDiff, ↓reduceIte, t26]; done) | (simp [upd, put, t26]; done) | rfl | (simp [upd, put, t26]; rfl)), (by first | (simp only [upd, put, Nat.reduceEqDiff, ↓reduceIte, t27]; done) | (simp [upd, put, t27]; done) | rfl | (simp [upd, put, t27]; rfl)), ttt⟩
            · have lt : ¬ (i : Int) < (LL : Int) := by omega
              repeat' (first | exact tf0 ‹_› | exact tf1 ‹_› | exact False.elim ‹_› | (with_reducible refine Al.intro ?_; intro pb hpb; (try simp only [hupd_none'] at hpb); (repeat rcases hpb with ⟨⟨hpx, hpy⟩, hpb⟩)) | with_reducible refine need ?_ | ((with_reducible first | refine frk0 ?_ ?_ | refine frk1 ?_ ?_ | refine frk2 ?_ ?_ | refine frk3 ?_ ?_ | refine frk4 ?_ ?_ | refine frk5 ?_ ?_ | refine frk6 ?_ ?_ | refine frk7 ?_ ?_ | refine frk8 ?_ ?_ | refine frk9 ?_ ?_) <;> intro h <;> try (exfalso; omega)) | with_reducible refine quiet_and ?_ ?_ | with_reducible refine awp_drawnA mixed (by decide +kernel) ?_ | ((fail_if_success with_reducible refine stp ?_); simp -implicitDefEqProofs only [go_sem, Nat.reduceEqDiff, Nat.reduceAdd, Nat.reduceLT, Nat.reduceMul, Nat.reduceSub, Nat.reduceLeDiff, ↓reduceIte, reduceCtorEq, ↓String.reduceEq, String.reduceNe, Int.reduceToNat, Int.reduceLT, Int.reduceLE, Int.reduceGT, Int.reduceGE, Int.reduceEq, Int.reduceNe, Int.reduceBEq, Int.reduceBNe, Int.reduceAdd, Int.reduceSub, Int.reduceMul, Int.reduceNeg,  *]))
              exact Again.intro ⟨rfl, .mk (fun x hx => by
                obtain ⟨j, hj, hjz⟩ := mem_at ((HL.out.2.1 x).2 hx)
                have := H.out.2.2 j (by have := HLL.out; omega)
                rwa [hjz] at this)⟩
          · rintro ts m2 ⟨hm2, HN⟩
            subst m2
            repeat' (first | exact tf0 ‹_› | exact tf1 ‹_› | exact False.elim ‹_› | (with_reducible refine Al.intro ?_; intro pb hpb; (try simp only [hupd_none'] at hpb); (repeat rcases hpb with ⟨⟨hpx, hpy⟩, hpb⟩)) | with_reducible refine need ?_ | ((with_reducible first | refine frk0 ?_ ?_ | refine frk1 ?_ ?_ | refine frk2 ?_ ?_ | refine frk3 ?_ ?_ | refine frk4 ?_ ?_ | refine frk5 ?_ ?_ | refine frk6 ?_ ?_ | refine frk7 ?_ ?_ | refine frk8 ?_ ?_ | refine frk9 ?_ ?_) <;> intro h <;> try (exfalso; omega)) | with_reducible refine quiet_and ?_ ?_ | with_reducible refine awp_drawnA mixed (by decide +kernel) ?_ | ((fail_if_success with_reducible refine stp ?_); simp -implicitDefEqProofs only [go_sem, Nat.reduceEqDiff, Nat.reduceAdd, Nat.reduceLT, Nat.reduceMul, Nat.reduceSub, Nat.reduceLeDiff, ↓reduceIte, reduceCtorEq, ↓String.reduceEq, String.reduceNe, Int.reduceToNat, Int.reduceLT, Int.reduceLE, Int.reduceGT, Int.reduceGE, Int.reduceEq, Int.reduceNe, Int.reduceBEq, Int.reduceBNe, Int.reduceAdd, Int.reduceSub, Int.reduceMul, Int.reduceNeg,  *]))
            exact ⟨_, Sub.refl _, HS.out.2.2.2 0 true _ (pass_true HR.out HI.out.1 HI.out.2 HN.out) HL.out.2.2.2⟩)
  · have hb2 : (h != c) = true := by simpa using hq
    have HI := Hid.mk (fun hh => hq (HP.out.2 hh))
    clear hq
    rcases hw with ⟨hv, hz⟩ | ⟨hv, hb⟩ | hv
    all_goals (
      refine callWP_body Tryd.func14 rfl (N := 42) rfl (rs := [.tmp 6, .tmp 7]) rfl en_14 (of_decide_eq_true rfl) ?_
      repeat' (first | exact tf0 ‹_› | exact tf1 ‹_› | exact False.elim ‹_› | (with_reducible refine Al.intro ?_; intro pb hpb; (try simp only [hupd_none'] at hpb); (repeat rcases hpb with ⟨⟨hpx, hpy⟩, hpb⟩)) | with_reducible refine need ?_ | ((with_reducible first | refine frk0 ?_ ?_ | refine frk1 ?_ ?_ | refine frk2 ?_ ?_ | refine frk3 ?_ ?_ | refine frk4 ?_ ?_ | refine frk5 ?_ ?_ | refine frk6 ?_ ?_ | refine frk7 ?_ ?_ | refine frk8 ?_ ?_ | refine frk9 ?_ ?_) <;> intro h <;> try (exfalso; omega)) | with_reducible refine quiet_and ?_ ?_ | with_reducible refine awp_drawnA mixed (by decide +kernel) ?_ | ((fail_if_success with_reducible refine stp ?_); simp -implicitDefEqProofs only [go_sem, Nat.reduceEqDiff, Nat.reduceAdd, Nat.reduceLT, Nat.reduceMul, Nat.reduceSub, Nat.reduceLeDiff, ↓reduceIte, reduceCtorEq, ↓String.reduceEq, String.reduceNe, Int.reduceToNat, Int.reduceLT, Int.reduceLE, Int.reduceGT, Int.reduceGE, Int.reduceEq, Int.reduceNe, Int.reduceBEq, Int.reduceBNe, Int.reduceAdd, Int.reduceSub, Int.reduceMul, Int.reduceNeg,  *]))
      refine pdright_spec G C HS.out.2.2.1 n _ _ (by rw [← hv]; exact HS.out.1) _ (fun b1 hb1 => ?_)
      cases b1 with
      | false =>
        repeat' (first | exact tf0 ‹_› | exact tf1 ‹_› | exact False.elim ‹_› | (with_reducible refine Al.intro ?_; intro pb hpb; (try simp only [hupd_none'] at hpb); (repeat rcases hpb with ⟨⟨hpx, hpy⟩, hpb⟩)) | with_reducible refine need ?_ | ((with_reducible first | refine frk0 ?_ ?_ | refine frk1 ?_ ?_ | refine frk2 ?_ ?_ | refine frk3 ?_ ?_ | refine frk4 ?_ ?_ | refine frk5 ?_ ?_ | refine frk6 ?_ ?_ | refine frk7 ?_ ?_ | refine frk8 ?_ ?_ | refine frk9 ?_ ?_) <;> intro h <;> try (exfalso; omega)) | with_reducible refine quiet_and ?_ ?_ | with_reducible refine awp_drawnA mixed (by decide +kernel) ?_ | ((fail_if_success with_reducible refine stp ?_); simp -implicitDefEqProofs only [go_sem, Nat.reduceEqDiff, Nat.reduceAdd, Nat.reduceLT, Nat.reduceMul, Nat.reduceSub, Nat.reduceLeDiff, ↓reduceIte, reduceCtorEq, ↓String.reduceEq, String.reduceNe, Int.reduceToNat, Int.reduceLT, Int.reduceLE, Int.reduceGT, Int.reduceGE, Int.reduceEq, Int.reduceNe, Int.reduceBEq, Int.reduceBNe, Int.reduceAdd, Int.reduceSub, Int.reduceMul, Int.reduceNeg,  *]))
        exact ⟨_, Sub.refl _, HS.out.2.2.2 0 false _ (.inl ⟨fun hh => HI.out hh.2, rfl, rfl⟩) (Sub.refl _)⟩
      | true =>
        clear hb1
        repeat' (first | exact tf0 ‹_› | exact tf1 ‹_› | exact False.elim ‹_› | (with_reducible refine Al.intro ?_; intro pb hpb; (try simp only [hupd_none'] at hpb); (repeat rcases hpb with ⟨⟨hpx, hpy⟩, hpb⟩)) | with_reducible refine need ?_ | ((with_reducible first | refine frk0 ?_ ?_ | refine frk1 ?_ ?_ | refine frk2 ?_ ?_ | refine frk3 ?_ ?_ | refine frk4 ?_ ?_ | refine frk5 ?_ ?_ | refine frk6 ?_ ?_ | refine frk7 ?_ ?_ | refine frk8 ?_ ?_ | refine frk9 ?_ ?_) <;> intro h <;> try (exfalso; omega)) | with_reducible refine quiet_and ?_ ?_ | with_reducible refine awp_drawnA mixed (by decide +kernel) ?_ | ((fail_if_success with_reducible refine stp ?_); simp -implicitDefEqProofs only [go_sem, Nat.reduceEqDiff, Nat.reduceAdd, Nat.reduceLT, Nat.reduceMul, Nat.reduceSub, Nat.reduceLeDiff, ↓reduceIte, reduceCtorEq, ↓String.reduceEq, String.reduceNe, Int.reduceToNat, Int.reduceLT, Int.reduceLE, Int.reduceGT, Int.reduceGE, Int.reduceEq, Int.reduceNe, Int.reduceBEq, Int.reduceBNe, Int.reduceAdd, Int.reduceSub, Int.reduceMul, Int.reduceNeg,  *]))
        refine CallWP.to (clamp_spec G h 1 65536 _) ?_
        rw [HC.out]
        repeat' (first | exact tf0 ‹_› | exact tf1 ‹_› | exact False.elim ‹_› | (with_reducible refine Al.intro ?_; intro pb hpb; (try simp only [hupd_none'] at hpb); (repeat rcases hpb with ⟨⟨hpx, hpy⟩, hpb⟩)) | with_reducible refine need ?_ | ((with_reducible first | refine frk0 ?_ ?_ | refine frk1 ?_ ?_ | refine frk2 ?_ ?_ | refine frk3 ?_ ?_ | refine frk4 ?_ ?_ | refine frk5 ?_ ?_ | refine frk6 ?_ ?_ | refine frk7 ?_ ?_ | refine frk8 ?_ ?_ | refine frk9 ?_ ?_) <;> intro h <;> try (exfalso; omega)) | with_reducible refine quiet_and ?_ ?_ | with_reducible refine awp_drawnA mixed (by decide +kernel) ?_ | ((fail_if_success with_reducible refine stp ?_); simp -implicitDefEqProofs only [go_sem, Nat.reduceEqDiff, Nat.reduceAdd, Nat.reduceLT, Nat.reduceMul, Nat.reduceSub, Nat.reduceLeDiff, ↓reduceIte, reduceCtorEq, ↓String.reduceEq, String.reduceNe, Int.reduceToNat, Int.reduceLT, Int.reduceLE, Int.reduceGT, Int.reduceGE, Int.reduceEq, Int.reduceNe, Int.reduceBEq, Int.reduceBNe, Int.reduceAdd, Int.reduceSub, Int.reduceMul, Int.reduceNeg,  *]))
        exact ⟨_, Sub.refl _, HS.out.2.2.2 0 false _ (.inl ⟨fun hh => HI.out hh.2, rfl, rfl⟩) (Sub.refl _)⟩)
end Go.Proofs.YtmifapnmlhchlaaDoor
