/- The keys of a map in a row (under way). Where demand grows, in plain words: the first span that is too short is one of these. The keys of a map in a row, in order. -/
import Derived.Test.YtmifapnmlhchlaaDoorY19
import Derived.Test.YtmifapnmlhchlaaDoorShS
import Derived.Test.YtmifapnmlhchlaaDoorLgc
set_option linter.all false
namespace Go.Proofs.YtmifapnmlhchlaaDoor
open Go Go.Proofs.YtmifapnmlhchlaaDoor.Ab
open Go.Proofs (Tryd.prog)
set_option maxRecDepth 100000
abbrev encI (x : Int) : List AVal := [.int .i64 x]
def keyAt (es : List (Int × AVal)) (ds : List Nat) : List Int := ds.map fun i => (es.getD i (0, .undef)).1
set_option maxHeartbeats 2000000 in
theorem seq_spec (G : Nat → AVal) (es : List (Int × AVal)) (bs : List Nat) (cl b pv : Nat) {m : Heap} (hn : bs.Nodup) (hbl : bs.length = es.length) (hle : es.length ≤ 1000000) (K : AVal → Heap → Prop)
    (hpv : m pv = some (.cells [.map b] 1)) (hb : m b = some (.map es bs cl))
    (hK : ∀ ds v m', ds.Nodup → (∀ i, i < es.length ↔ i ∈ ds) → SlM encI 1 (keyAt es ds) v m' → Sub m m' → (∀ c, bOf v = some c → m c = none) → K v m') : CallWP Tryd.prog G 83 [.nils, .func (.func 66) [] [.ptr pv 0]] m K := by
  have HH := Hid.mk (And.intro hpv (And.intro hb hK))
  have HN := Hid.mk (And.intro hn hbl)
  have HLE := Hid.mk hle
  clear hK hn hbl hpv hb hle
  refine callWP_body Tryd.func83 rfl (N := 13) rfl (rs := [.tmp 4]) rfl en_83 (of_decide_eq_true rfl) ?_
  repeat' (first | exact tf0 ‹_› | exact tf1 ‹_› | exact False.elim ‹_› | (with_reducible refine Al.intro ?_; intro pb hpb; (try simp only [hupd_none'] at hpb); (repeat rcases hpb with ⟨⟨hpx, hpy⟩, hpb⟩)) | with_reducible refine need ?_ | ((with_reducible first | refine frk0 ?_ ?_ | refine frk1 ?_ ?_ | refine frk2 ?_ ?_ | refine frk3 ?_ ?_ | refine frk4 ?_ ?_ | refine frk5 ?_ ?_ | refine frk6 ?_ ?_ | refine frk7 ?_ ?_ | refine frk8 ?_ ?_ | refine frk9 ?_ ?_) <;> intro h <;> try (exfalso; omega)) | with_reducible refine quiet_and ?_ ?_ | with_reducible refine awp_drawnA mixed (by decide +kernel) ?_ | ((fail_if_success with_reducible refine stp ?_); simp -implicitDefEqProofs only [go_sem, Nat.reduceEqDiff, Nat.reduceAdd, Nat.reduceLT, Nat.reduceMul, Nat.reduceSub, Nat.reduceLeDiff, ↓reduceIte, reduceCtorEq, ↓String.reduceEq, String.reduceNe, Int.reduceToNat, Int.reduceLT, Int.reduceLE, Int.reduceGT, Int.reduceGE, Int.reduceEq, Int.reduceNe, Int.reduceBEq, Int.reduceBNe, Int.reduceAdd, Int.reduceSub, Int.reduceMul, Int.reduceNeg,  *]))
  have HP := Hid.mk hpb
  generalize pb = p2 at *
  clear hpb
  refine awp_range' (gf := 66) (fs := []) (cs := [.ptr pv 0]) (by rfl) en_66 (fun l LB HLB hl => ?_)
  simp only [hupd_none'] at hl
  obtain ⟨⟨r1, r2⟩, r3⟩ := hl
  have HL := Hid.mk r3
  clear r3
  have hpv2 : pv ≠ p2 := fun e => by have h := HH.out.1; rw [e, HP.out] at h; cases h
  have hpvl : pv ≠ l := fun e => by have h := HH.out.1; rw [e, HL.out] at h; cases h
  have hb2 : b ≠ p2 := fun e => by have h := HH.out.2.1; rw [e, HP.out] at h; cases h
  have hbl : b ≠ l := fun e => by have h := HH.out.2.1; rw [e, HL.out] at h; cases h
  refine keys1_spec G es bs cl b pv l HN.out.1 HN.out.2 (fun r ds m' => ds.Nodup ∧ (∀ j ∈ ds, j < es.length) ∧ r ≠ l ∧ r ≠ p2 ∧ m r = none ∧ m' l = some LB ∧ Sub m m' ∧ ∃ v, m' p2 = some (.cells [v] 1) ∧ SlM encI 1 (keyAt es ds) v m' ∧ ∀ c, bOf v = some c → m c = none ∧ c ≠ r ∧ c ≠ p2 ∧ c ≠ l) _ (by rw [hupd_ne hpvl, hupd_ne hpv2]; exact HH.out.1) (by rw [hupd_ne hbl, hupd_ne hb2]; exact HH.out.2.1) ?_ ?_ ?_ ?_ ?_
  · intro r x hr
    simp only [hupd_none'] at hr
    obtain ⟨⟨a1, a2⟩, ⟨a3, a4⟩, a5⟩ := hr
    exact ⟨List.nodup_nil, (fun j hj => by cases hj), a1, a3, a5, by rw [hupd_ne a2, hupd_at, if_pos rfl], (((Sub.refl _).fresh HP.out).fresh HL.out).fresh a5, .nils, by rw [hupd_ne a4, hupd_ne r2, hupd_at, if_pos rfl], .inl ⟨rfl, rfl⟩, fun c hc => by simp [bOf] at hc⟩
  · intro r ds m' h
    exact h.2.2.2.2.2.2.1 _ _ HH.out.2.1
  · rintro r ds m' x hr ⟨d1, d2, a1, a2, a3, a4, a5, v, a6, a7, a8⟩
    exact ⟨d1, d2, a1, a2, a3, by rw [hupd_ne (Ne.symm a1)]; exact a4, a5.fresh a3, v, by rw [hupd_ne (Ne.symm a2)]; exact a6, a7.upd (fun c o k q e => (a8 c (by rw [e]; rfl)).2.1), a8⟩
  · rintro r ds i m' y hr ⟨d1, d2, a1, a2, a3, a4, a5, v, a6, a7, a8⟩ hy hi hnd
    have hlb := a4.trans (congrArg some HLB.out)
    have hnd2 : (ds ++ [i]).Nodup := by
      rw [List.nodup_append]
      exact ⟨d1, by simp, fun a ha c hc e => by rw [List.mem_singleton.1 hc] at e; exact hnd (e ▸ ha)⟩
    have hlt2 : ∀ j ∈ ds ++ [i], j < es.length := fun j hj => by
      rcases List.mem_append.1 hj with h | h
      · exact d2 j h
      · rw [List.mem_singleton.1 h]; exact hi
    have hlen := nodup_le _ _ hnd2 hlt2
    rw [List.length_append, List.length_singleton] at hlen
    have HD := Hid.mk (And.intro hnd2 (And.intro hlt2 hlen))
    have hk : keyAt es (ds ++ [i]) = keyAt es ds ++ [(es.getD i (0, .undef)).1] := by unfold keyAt; rw [List.map_append]; rfl
    have hkl : (keyAt es ds).length = ds.length := List.length_map _
    have HKK := Hid.mk (And.intro hk hkl)
    clear hk hkl d1 d2 hnd2 hlt2 hlen
    have HA := Hid.mk (And.intro a4 (And.intro a5 (And.intro a6 (And.intro a7 (And.intro a8 (And.intro hy hi))))))
    have frl : ∀ b', m' b' = none → (l = b') = False := fun b' h => by
      rw [eq_iff_iff, iff_false]; rintro rfl; rw [a4] at h; cases h
    have frl2 : ∀ b', m' b' = none → (b' = l) = False := fun b' h => by
      rw [eq_iff_iff, iff_false]; rintro rfl; rw [a4] at h; cases h
    have fr2 : ∀ b', m' b' = none → (p2 = b') = False := fun b' h => by
      rw [eq_iff_iff, iff_false]; rintro rfl; rw [a6] at h; cases h
    have fr22 : ∀ b', m' b' = none → (b' = p2) = False := fun b' h => by
      rw [eq_iff_iff, iff_false]; rintro rfl; rw [a6] at h; cases h
    have hf := a7.slv
    clear a4 a5 a7 a8 hy hi hnd hr
    rcases hf with ⟨rfl, -⟩ | ⟨b5, o5, c5, rfl⟩
    all_goals (
      refine yield_of hlb rfl (by decide +kernel) ?_
      repeat' (first | exact tf0 ‹_› | exact tf1 ‹_› | exact False.elim ‹_› | (with_reducible refine Al.intro ?_; intro pb hpb; (try simp only [hupd_none'] at hpb); (repeat rcases hpb with ⟨⟨hpx, hpy⟩, hpb⟩)) | with_reducible refine need ?_ | ((with_reducible first | refine frk0 ?_ ?_ | refine frk1 ?_ ?_ | refine frk2 ?_ ?_ | refine frk3 ?_ ?_ | refine frk4 ?_ ?_ | refine frk5 ?_ ?_ | refine frk6 ?_ ?_ | refine frk7 ?_ ?_ | refine frk8 ?_ ?_ | refine frk9 ?_ ?_) <;> intro h <;> try (exfalso; omega)) | with_reducible refine quiet_and ?_ ?_ | with_reducible refine awp_drawnA mixed (by decide +kernel) ?_ | ((fail_if_success with_reducible refine stp ?_); simp -implicitDefEqProofs only [go_sem, Nat.reduceEqDiff, Nat.reduceAdd, Nat.reduceLT, Nat.reduceMul, Nat.reduceSub, Nat.reduceLeDiff, ↓reduceIte, reduceCtorEq, ↓String.reduceEq, String.reduceNe, Int.reduceToNat, Int.reduceLT, Int.reduceLE, Int.reduceGT, Int.reduceGE, Int.reduceEq, Int.reduceNe, Int.reduceBEq, Int.reduceBNe, Int.reduceAdd, Int.reduceSub, Int.reduceMul, Int.reduceNeg,  *]))
      have HB := Hid.mk hpb
      have hcn : ∀ c, bOf _ = some c → c ≠ pb := fun c hc e => slm_some HA.out.2.2.2.1 hc (e ▸ HB.out)
      have n2 : p2 ≠ pb := fun e => by have h := HA.out.2.2.1; rw [e, HB.out] at h; cases h
      have nl : l ≠ pb := fun e => by have h := HA.out.1; rw [e, HB.out] at h; cases h
      have nr : r ≠ pb := fun e => by have h := HA.out.2.2.2.2.2.1; rw [e, HB.out] at h; cases h
      clear hpb
      refine appN (enc := encI) (sz := 1) (C := keyAt es ds) (E := [(es.getD i (0, .undef)).1]) (pre := []) (post := []) (N := 1) Tryd.underlying51 tk_2 eb_2 zl_2 (by decide) (by rw [Tryd.underlying51]; rfl) (by unfold isInt; rw [Tryd.underlying51]) (fun _ => rfl) rfl (by rw [hupd_at, if_pos rfl]; rfl)
        (SlM.keep HA.out.2.2.2.1 (fun c hc => by rw [hupd_ne (hcn c hc), hupd_ne (HA.out.2.2.2.2.1 c hc).2.2.2])) (by rw [HKK.out.2]; have := HD.out.2.2; have := HLE.out; simp only [List.length_singleton]; omega) (fun v2 m2 h1 h2 => ?_)
      obtain ⟨b6, o6, c6, rfl⟩ : ∃ b6 o6 c6, v2 = .slice b6 o6 (keyAt es ds ++ [(es.getD i (0, .undef)).1]).length c6 := by
        rcases h1.slv with ⟨_, h⟩ | h
        · simp at h
        · exact h
      have k2 : m2 p2 = _ := (h2.1 p2 (fun e => (HA.out.2.2.2.2.1 p2 e).2.2.1 rfl) (by rw [hupd_ne n2, hupd_ne r1.symm, HA.out.2.2.1] <;> simp)).trans ((by rw [hupd_ne n2, hupd_ne r1.symm] : _ = m' p2).trans HA.out.2.2.1)
      have kl : m2 l = _ := (h2.1 l (fun e => (HA.out.2.2.2.2.1 l e).2.2.2 rfl) (by rw [hupd_ne nl, hupd_at, if_pos rfl] <;> simp)).trans (by rw [hupd_ne nl, hupd_at, if_pos rfl])
      have kr : m2 r = _ := (h2.1 r (fun e => (HA.out.2.2.2.2.1 r e).2.1 rfl) (by rw [hupd_ne nr, hupd_ne a1, HA.out.2.2.2.2.2.1] <;> simp)).trans ((by rw [hupd_ne nr, hupd_ne a1] : _ = m' r).trans HA.out.2.2.2.2.2.1)
      have ks : Sub m m2 := fun c x hx => by
        have hcl : c ≠ l := fun e => by rw [e, HL.out] at hx; cases hx
        have hm' := HA.out.2.1 c x hx
        have hcp : c ≠ pb := fun e => by rw [e, HB.out] at hm'; cases hm'
        rw [h2.1 c (fun e => by have h := (HA.out.2.2.2.2.1 c e).1; rw [hx] at h; cases h) (by rw [hupd_ne hcp, hupd_ne hcl, hm'] <;> simp), hupd_ne hcp, hupd_ne hcl]; exact hm'
      have kc : ∀ c, bOf (.slice b6 o6 (keyAt es ds ++ [(es.getD i (0, .undef)).1]).length c6) = some c → m c = none ∧ c ≠ r ∧ c ≠ p2 ∧ c ≠ l := fun c hc => by
        rcases h2.2 c hc with h | h
        · simp only [hupd_none'] at h
          exact ⟨HA.out.2.1.gone h.2.2, (fun e => by have g := HA.out.2.2.2.2.2.1; rw [← e, h.2.2] at g; cases g), (fun e => by have g := HA.out.2.2.1; rw [← e, h.2.2] at g; cases g), h.2.1.1⟩
        · exact HA.out.2.2.2.2.1 c h
      have HZ := Hid.mk (And.intro h1 (And.intro kl (And.intro kr (And.intro ks kc))))
      clear h1 h2 kr ks kc hcn
      repeat' (first | exact tf0 ‹_› | exact tf1 ‹_› | exact False.elim ‹_› | (with_reducible refine Al.intro ?_; intro pb hpb; (try simp only [hupd_none'] at hpb); (repeat rcases hpb with ⟨⟨hpx, hpy⟩, hpb⟩)) | with_reducible refine need ?_ | ((with_reducible first | refine frk0 ?_ ?_ | refine frk1 ?_ ?_ | refine frk2 ?_ ?_ | refine frk3 ?_ ?_ | refine frk4 ?_ ?_ | refine frk5 ?_ ?_ | refine frk6 ?_ ?_ | refine frk7 ?_ ?_ | refine frk8 ?_ ?_ | refine frk9 ?_ ?_) <;> intro h <;> try (exfalso; omega)) | with_reducible refine quiet_and ?_ ?_ | with_reducible refine awp_drawnA mixed (by decide +kernel) ?_ | ((fail_if_success with_reducible refine stp ?_); simp -implicitDefEqProofs only [go_sem, Nat.reduceEqDiff, Nat.reduceAdd, Nat.reduceLT, Nat.reduceMul, Nat.reduceSub, Nat.reduceLeDiff, ↓reduceIte, reduceCtorEq, ↓String.reduceEq, String.reduceNe, Int.reduceToNat, Int.reduceLT, Int.reduceLE, Int.reduceGT, Int.reduceGE, Int.reduceEq, Int.reduceNe, Int.reduceBEq, Int.reduceBNe, Int.reduceAdd, Int.reduceSub, Int.reduceMul, Int.reduceNeg,  *]))
      refine ⟨by rw [hupd_ne r1]; exact HZ.out.2.1, rfl, ⟨HD.out.1, HD.out.2.1, by rw [hupd_at, if_pos rfl]; exact (congrArg some HLB.out).symm, fun c x hx => ?_, _, by rw [hupd_ne r2, hupd_at, if_pos rfl], ?_, HZ.out.2.2.2.2⟩, ?_⟩
      · rw [hupd_ne (fun e => by rw [e, HL.out] at hx; cases hx), hupd_ne (fun e => by rw [e, HP.out] at hx; cases hx)]; exact HZ.out.2.2.2.1 c x hx
      · rw [HKK.out.1]
        exact SlM.keep HZ.out.1 (fun c hc => by rw [hupd_ne (HZ.out.2.2.2.2 c hc).2.2.2, hupd_ne (HZ.out.2.2.2.2 c hc).2.2.1])
      · rw [hupd_ne a1, hupd_ne a2]; exact HZ.out.2.2.1)
  · rintro r ds m' ⟨_, _, a1, a2, a3, a4, a5, v, a6, a7, a8⟩ hall hnd hlt
    obtain ⟨M1, hM⟩ : ∃ M1 : Heap, ∀ c, M1 c = if c = l then none else m' c := ⟨_, fun _ => rfl⟩
    have s1 : Sub M1 m' := fun c x h => by
      rw [hM] at h
      split at h
      · cases h
      · exact h
    have s2 : Sub m M1 := fun c x h => by
      rw [hM, if_neg (fun e => by rw [e, HL.out] at h; cases h)]
      exact a5 _ _ h
    have k2 : M1 p2 = some (.cells [v] 1) := by rw [hM, if_neg r2]; exact a6
    have k3 : SlM encI 1 (keyAt es ds) v M1 := a7.keep (fun c hc => by rw [hM, if_neg (a8 c hc).2.2.2])
    have HE := Hid.mk (HH.out.2.2 ds v M1 hnd (fun i => ⟨hall i, hlt i⟩) k3 s2 (fun c hc => (a8 c hc).1))
    refine ⟨_, _, _, _, _, _, _, M1, a4.trans (congrArg some HLB.out), by decide, s1, by rw [hM, if_pos rfl], ?_⟩
    clear a4 a5 a6 a7 a8 s1 s2 k3 hall hnd hlt hM
    show blockA 0 _ _ _ _
    repeat' (first | exact tf0 ‹_› | exact tf1 ‹_› | exact False.elim ‹_› | (with_reducible refine Al.intro ?_; intro pb hpb; (try simp only [hupd_none'] at hpb); (repeat rcases hpb with ⟨⟨hpx, hpy⟩, hpb⟩)) | with_reducible refine need ?_ | ((with_reducible first | refine frk0 ?_ ?_ | refine frk1 ?_ ?_ | refine frk2 ?_ ?_ | refine frk3 ?_ ?_ | refine frk4 ?_ ?_ | refine frk5 ?_ ?_ | refine frk6 ?_ ?_ | refine frk7 ?_ ?_ | refine frk8 ?_ ?_ | refine frk9 ?_ ?_) <;> intro h <;> try (exfalso; omega)) | with_reducible refine quiet_and ?_ ?_ | with_reducible refine awp_drawnA mixed (by decide +kernel) ?_ | ((fail_if_success with_reducible refine stp ?_); simp -implicitDefEqProofs only [go_sem, Nat.reduceEqDiff, Nat.reduceAdd, Nat.reduceLT, Nat.reduceMul, Nat.reduceSub, Nat.reduceLeDiff, ↓reduceIte, reduceCtorEq, ↓String.reduceEq, String.reduceNe, Int.reduceToNat, Int.reduceLT, Int.reduceLE, Int.reduceGT, Int.reduceGE, Int.reduceEq, Int.reduceNe, Int.reduceBEq, Int.reduceBNe, Int.reduceAdd, Int.reduceSub, Int.reduceMul, Int.reduceNeg,  *]))
    exact ⟨_, Sub.refl _, HE.out⟩
end Go.Proofs.YtmifapnmlhchlaaDoor
namespace Go.Proofs.YtmifapnmlhchlaaDoor
open Go Go.Proofs.YtmifapnmlhchlaaDoor.Ab
open Go.Proofs (Tryd.prog)
/-- A span at which a stream's demand grows. -/
def GrowS (s : Stm) (n h x : Int) : Prop := s.2.2.1 = 1 ∧ ∃ k : Nat, x = s.2.2.2.2.1 - n + 1 + (k : Int) * s.2.2.2.1 ∧ x ≤ h
/-- A span at which one of them grows. -/
def GrowC (C : List Stm) (n h x : Int) : Prop := ∃ s ∈ C, GrowS s n h x
theorem growC_in {C : List Stm} {n h x : Int} (hr : rightC C n) (hg : GrowC C n h x) : 1 ≤ x ∧ x ≤ h := by
  obtain ⟨s, hs, hc, k, rfl, hx⟩ := hg
  have h1 := hr.2.2.2.2 s hs hc
  have h2 := (rightS_zero.1 (hr.2.2.1 s hs)).2.2.2.2.1
  have h3 : 0 ≤ (k : Int) * s.2.2.2.1 := Int.mul_nonneg (by omega) (by omega)
  exact ⟨by omega, hx⟩
theorem div_same {p T : Int} (hT : 0 < T) (hn : ¬ T ∣ p) : p / T = (p - 1) / T := by
  have e := Int.mul_ediv_add_emod (p - 1) T
  have r0 := Int.emod_nonneg (p - 1) (show T ≠ 0 by omega)
  have r1 := Int.emod_lt_of_pos (p - 1) hT
  generalize (p - 1) / T = q at *
  generalize (p - 1) % T = r at *
  have hp : p = (r + 1) + T * q := by omega
  by_cases hr : r + 1 = T
  · exfalso
    refine hn ⟨q + 1, ?_⟩
    rw [hp, hr, Int.mul_add, Int.mul_one]; omega
  · rw [hp, Int.add_mul_ediv_left _ _ (by omega), Int.ediv_eq_zero_of_lt (by omega) (by omega)]; omega
theorem dem_one {s : Stm} {n h : Int} (h1 : 1 ≤ h) (hn : s.2.2.1 = 1 → n ≤ s.2.2.2.2.1) (hg : ¬ GrowS s n h 1) : demS s 1 n = 0 := by
  unfold demS
  rw [if_neg]
  rintro ⟨hc, hp⟩
  exact hg ⟨hc, 0, by have := hn hc; omega, h1⟩
theorem dem_same {s : Stm} {n h x : Int} (hT : 0 < s.2.2.2.1) (hx : x ≤ h) (hg : ¬ GrowS s n h x) : demS s x n = demS s (x - 1) n := by
  unfold demS
  by_cases hc : s.2.2.1 = 1
  · by_cases hp : 0 ≤ x + n - 1 - s.2.2.2.2.1
    · have hnd : ¬ s.2.2.2.1 ∣ x + n - 1 - s.2.2.2.2.1 := by
        rintro ⟨q, hq⟩
        have hq0 : 0 ≤ q := by
          by_cases h : 0 ≤ q
          · exact h
          · have h1 := Int.mul_neg_of_pos_of_neg hT (show q < 0 by omega)
            omega
        refine hg ⟨hc, q.toNat, ?_, hx⟩
        rw [show ((q.toNat : Nat) : Int) = q by omega, Int.mul_comm]; omega
      have hp2 : x + n - 1 - s.2.2.2.2.1 ≠ 0 := fun e => hnd (by rw [e]; exact Int.dvd_zero _)
      rw [if_pos ⟨hc, hp⟩, if_pos ⟨hc, by omega⟩, Int.tdiv_eq_ediv_of_nonneg hp, Int.tdiv_eq_ediv_of_nonneg (show 0 ≤ x - 1 + n - 1 - s.2.2.2.2.1 by omega), div_same hT hnd, show x + n - 1 - s.2.2.2.2.1 - 1 = x - 1 + n - 1 - s.2.2.2.2.1 by omega]
    · rw [if_neg (fun h => hp h.2), if_neg (fun h => hp (by have := h.2; omega))]
  · rw [if_neg (fun h => hc h.1), if_neg (fun h => hc h.1)]
theorem demF_one {C : List Stm} {n h : Int} (hr : rightC C n) (h1 : 1 ≤ h) (hg : ¬ GrowC C n h 1) : demF C 1 n = 0 := by
  have : C.map (fun s => demS s 1 n) = C.map (fun _ => 0) := List.map_congr_left fun s hs => dem_one h1 (hr.2.2.2.2 s hs) (fun h => hg ⟨s, hs, h⟩)
  unfold demF
  rw [this]
  clear this hg hr h1
  induction C with
  | nil => rfl
  | cons a t ih => rw [List.map_cons, List.sum_cons, ih]; rfl
theorem demF_same {C : List Stm} {n h x : Int} (hr : rightC C n) (hx : x ≤ h) (hg : ¬ GrowC C n h x) : demF C x n = demF C (x - 1) n := by
  unfold demF
  rw [List.map_congr_left fun s hs => dem_same (by have := (rightS_zero.1 (hr.2.2.1 s hs)).2.2.2.2.1; omega) hx (fun h => hg ⟨s, hs, h⟩)]
theorem sum_pos : ∀ (l : List Int), (∀ x ∈ l, 0 ≤ x) → ∀ a ∈ l, a ≤ l.sum
  | [], _, a, h => by cases h
  | b :: t, h0, a, h => by
    have ht : ∀ x ∈ t, 0 ≤ x := fun x hx => h0 x (List.mem_cons_of_mem _ hx)
    have hb := h0 b (by simp)
    rw [List.sum_cons]
    rcases List.mem_cons.1 h with rfl | h
    · have : 0 ≤ t.sum := by
        clear h0 h hb
        induction t with
        | nil => simp
        | cons c u ih => rw [List.sum_cons]; have := ih (fun x hx => ht x (List.mem_cons_of_mem _ hx)); have := ht c (by simp); omega
      omega
    · have := sum_pos t ht a h; omega
theorem grow_dem {C : List Stm} {n h x : Int} (hr : rightC C n) (hh : h ≤ 65536) (hg : GrowC C n h x) : 0 < demF C x n := by
  have hx := growC_in hr hg
  obtain ⟨s, hs, hc, k, hk, _⟩ := hg
  have h2 := (rightS_zero.1 (hr.2.2.1 s hs)).2.2.2.2.1
  have h3 : 0 ≤ (k : Int) * s.2.2.2.1 := Int.mul_nonneg (by omega) (by omega)
  have hd : 0 < demS s x n := by
    unfold demS
    rw [if_pos ⟨hc, by omega⟩]
    have hp : x + n - 1 - s.2.2.2.2.1 = (k : Int) * s.2.2.2.1 := by omega
    rw [hp, Int.tdiv_eq_ediv_of_nonneg h3, Int.mul_ediv_cancel _ (by omega)]
    have := costS_pos (hr.2.2.1 s hs)
    exact Int.mul_pos (by omega) (by omega)
  have h0 : ∀ y ∈ C.map (fun s => demS s x n), 0 ≤ y := by
    intro y hy
    obtain ⟨z, hz, rfl⟩ := List.mem_map.1 hy
    exact (demS_in (hr.2.2.1 z hz) (by omega) (by omega) hr.2.1.1 hr.2.1.2).1
  have := sum_pos _ h0 _ (List.mem_map_of_mem (f := fun s => demS s x n) hs)
  unfold demF; omega
/-- If none of these below a bound is too short, no span below it is. -/
theorem fails_none {C : List Stm} {n h B : Int} (hr : rightC C n) (h1 : 1 ≤ h) (hB : ∀ x, GrowC C n h x → x < B → ¬ (x < blkF C + demF C x n)) : ∀ k : Nat, ∀ s : Int, s = (k : Int) + 1 → s < B → s ≤ h → ¬ Fails C s n
  | k, s, hk, hb, hs, hf => by
    by_cases hg : GrowC C n h s
    · exact hB s hg hb hf.2
    · match k, hk with
      | 0, hk =>
        have e : s = 1 := by omega
        subst e
        have := demF_one hr h1 hg
        have := hf.1
        omega
      | k + 1, hk =>
        have e := demF_same hr hs hg
        refine fails_none hr h1 hB k (s - 1) (by omega) (by omega) (by omega) ⟨?_, ?_⟩
        · rw [← e]; exact hf.1
        · rw [← e]; have := hf.2; omega
theorem pass_true {C : List Stm} {n h : Int} (hr : rightC C n) (h1 : 1 ≤ h) (h2 : h ≤ 65536) (hB : ∀ x, GrowC C n h x → ¬ (x < blkF C + demF C x n)) : PassR C n h 0 true :=
  .inr ⟨hr, ⟨h1, h2⟩, .inl ⟨rfl, rfl, fun s hs1 hs2 => fails_none (B := h + 1) hr h1 (fun x hx _ => hB x hx) (s - 1).toNat s (by omega) (by omega) hs2⟩⟩
theorem pass_false {C : List Stm} {n h x : Int} (hr : rightC C n) (h1 : 1 ≤ h) (h2 : h ≤ 65536) (hx : GrowC C n h x) (hf : x < blkF C + demF C x n) (hB : ∀ y, GrowC C n h y → y < x → ¬ (y < blkF C + demF C y n)) : PassR C n h x false := by
  have hi := growC_in hr hx
  exact .inr ⟨hr, ⟨h1, h2⟩, .inr ⟨hi, rfl, ⟨grow_dem hr h2 hx, hf⟩, fun s hs1 hs2 => fails_none (B := x) hr h1 hB (s - 1).toNat s (by omega) hs2 (by omega)⟩⟩
/-- Two answers of one question are one. -/
theorem passR_one {C : List Stm} {n h a b : Int} {o p : Bool} (h1 : PassR C n h a o) (h2 : PassR C n h b p) : a = b ∧ o = p := by
  rcases h1 with ⟨g, rfl, rfl⟩ | ⟨g1, g2, g3⟩
  · rcases h2 with ⟨_, rfl, rfl⟩ | ⟨k1, k2, _⟩
    · exact ⟨rfl, rfl⟩
    · exact absurd ⟨k1, k2⟩ g
  · rcases h2 with ⟨k, _⟩ | ⟨_, _, k3⟩
    · exact absurd ⟨g1, g2⟩ k
    · rcases g3 with ⟨rfl, rfl, g⟩ | ⟨gi, rfl, gf, g⟩
      · rcases k3 with ⟨rfl, rfl, _⟩ | ⟨ki, _, kf, _⟩
        · exact ⟨rfl, rfl⟩
        · exact absurd kf (g b ki.1 ki.2)
      · rcases k3 with ⟨_, _, k⟩ | ⟨ki, rfl, kf, k⟩
        · exact absurd gf (k a gi.1 gi.2)
        · refine ⟨?_, rfl⟩
          rcases Int.lt_trichotomy a b with h | h | h
          · exact absurd gf (k a gi.1 h)
          · exact h
          · exact absurd kf (g b ki.1 h)
end Go.Proofs.YtmifapnmlhchlaaDoor
namespace Go.Proofs.YtmifapnmlhchlaaDoor
open Go Go.Proofs.YtmifapnmlhchlaaDoor.Ab
open Go.Proofs (Tryd.prog)
set_option maxRecDepth 100000
theorem encI_map (C : List Int) : C.flatMap encI = C.map (AVal.int .i64) := by
  induction C with
  | nil => rfl
  | cons x t ih => rw [List.flatMap_cons, ih]; rfl
def srtI (C : List Int) : List Int := C.mergeSort fun x y => decide (x ≤ y)
theorem isort_spec (G : Nat → AVal) (C : List Int) (hl : C.length ≤ 1000000) (v : AVal) (m : Heap) (hs : SlM encI 1 C v m) (K : AVal → Heap → Prop)
    (hK : ∀ m', SlM encI 1 (srtI C) v m' → (∀ x, bOf v ≠ some x → m' x = m x) → K (.tuple []) m') : CallWP Tryd.prog G 65 [v] m K := by
  have hlen : (srtI C).length = C.length := List.length_mergeSort _
  rcases hs with ⟨rfl, rfl⟩ | ⟨b, blk, hb, pre, post, N, cap, rfl, rfl, hN, hc⟩
  · exact ints_nil en_65 (fun p c w => AnyG.slices_Sort_int_none Tryd.sortI p c w) m K (hK m (.inl ⟨rfl, by simp [srtI]⟩) fun _ _ => rfl)
  · rw [encI_map] at hb
    refine ints_wp en_65 (fun blk off cap zs w h1 h2 h3 => AnyG.slices_Sort_int Tryd.sortI blk off cap zs w h1 h2 h3) C pre post N b cap m K hb (by omega) ?_
    rw [← hlen] at hK
    refine hK _ (.inr ⟨b, _, by rw [hupd_at, if_pos rfl], pre, post, N, cap, rfl, by rw [encI_map]; rfl, hN, by rw [hlen]; exact hc⟩) (fun x hx => hupd_ne fun e => hx (by rw [e]; rfl))
theorem srt_mem (C : List Int) (x : Int) : x ∈ srtI C ↔ x ∈ C := List.mem_mergeSort
theorem srt_le (C : List Int) : (srtI C).Pairwise (· ≤ ·) := by
  have := List.pairwise_mergeSort (le := fun x y : Int => decide (x ≤ y)) (fun a b c h1 h2 => by simp only [decide_eq_true_eq] at *; omega) (fun a b => by simp only [Bool.or_eq_true, decide_eq_true_eq]; omega) C
  exact this.imp (fun h => by simpa using h)
theorem srt_lt {C : List Int} (h : C.Nodup) : (srtI C).Pairwise (· < ·) := by
  have h1 := srt_le C
  have h2 : (srtI C).Nodup := (List.mergeSort_perm C _).symm.nodup h
  exact (h1.and h2).imp (fun h => by have := h.1; have := h.2; omega)
theorem key_mem {es : List (Int × AVal)} {ds : List Nat} (hall : ∀ i, i < es.length ↔ i ∈ ds) (x : Int) : x ∈ keyAt es ds ↔ x ∈ es.map (·.1) := by
  unfold keyAt
  rw [List.mem_map, List.mem_map]
  constructor
  · rintro ⟨i, hi, rfl⟩
    have h := (hall i).2 hi
    exact ⟨es[i], List.getElem_mem h, by simp [List.getD_eq_getElem?_getD, h]⟩
  · rintro ⟨e, he, rfl⟩
    obtain ⟨i, hi, rfl⟩ := List.getElem_of_mem he
    exact ⟨i, (hall i).1 hi, by simp [List.getD_eq_getElem?_getD, hi]⟩
theorem key_nodup {es : List (Int × AVal)} {ds : List Nat} (hn : (es.map (·.1)).Nodup) (hall : ∀ i, i < es.length ↔ i ∈ ds) (hd : ds.Nodup) : (keyAt es ds).Nodup := by
  unfold keyAt
  show List.Pairwise (· ≠ ·) _
  rw [List.pairwise_map]
  refine List.Pairwise.imp_of_mem ?_ hd
  intro a b ha hb hab he
  have ha := (hall a).2 ha
  have hb := (hall b).2 hb
  have hp := List.pairwise_iff_getElem.1 hn
  simp only [List.getD_eq_getElem?_getD, List.getElem?_eq_getElem ha, List.getElem?_eq_getElem hb, Option.getD_some] at he
  rcases Nat.lt_trichotomy a b with g | g | g
  · have := hp a b (by simpa using ha) (by simpa using hb) g
    simp only [List.getElem_map] at this
    exact this he
  · exact hab g
  · have := hp b a (by simpa using hb) (by simpa using ha) g
    simp only [List.getElem_map] at this
    exact this he.symm
set_option maxHeartbeats 2000000 in
theorem collect_spec (G : Nat → AVal) (es : List (Int × AVal)) (bs : List Nat) (cl b pv : Nat) {m : Heap} (hn : bs.Nodup) (hbl : bs.length = es.length) (hle : es.length ≤ 1000000) (K : AVal → Heap → Prop)
    (hpv : m pv = some (.cells [.map b] 1)) (hb : m b = some (.map es bs cl))
    (hK : ∀ ds v m', ds.Nodup → (∀ i, i < es.length ↔ i ∈ ds) → SlM encI 1 (keyAt es ds) v m' → Sub m m' → (∀ c, bOf v = some c → m c = none) → K v m') : CallWP Tryd.prog G 64 [.func (.func 66) [] [.ptr pv 0]] m K := by
  have HH := Hid.mk (And.intro hpv (And.intro hb hK))
  have HN := Hid.mk (And.intro hn (And.intro hbl hle))
  clear hK hn hbl hpv hb hle
  refine callWP_body Tryd.func64 rfl (N := 5) rfl (rs := [.tmp 2]) rfl en_64 (of_decide_eq_true rfl) ?_
  repeat' (first | exact tf0 ‹_› | exact tf1 ‹_› | exact False.elim ‹_› | (with_reducible refine Al.intro ?_; intro pb hpb; (try simp only [hupd_none'] at hpb); (repeat rcases hpb with ⟨⟨hpx, hpy⟩, hpb⟩)) | with_reducible refine need ?_ | ((with_reducible first | refine frk0 ?_ ?_ | refine frk1 ?_ ?_ | refine frk2 ?_ ?_ | refine frk3 ?_ ?_ | refine frk4 ?_ ?_ | refine frk5 ?_ ?_ | refine frk6 ?_ ?_ | refine frk7 ?_ ?_ | refine frk8 ?_ ?_ | refine frk9 ?_ ?_) <;> intro h <;> try (exfalso; omega)) | with_reducible refine quiet_and ?_ ?_ | with_reducible refine awp_drawnA mixed (by decide +kernel) ?_ | ((fail_if_success with_reducible refine stp ?_); simp -implicitDefEqProofs only [go_sem, Nat.reduceEqDiff, Nat.reduceAdd, Nat.reduceLT, Nat.reduceMul, Nat.reduceSub, Nat.reduceLeDiff, ↓reduceIte, reduceCtorEq, ↓String.reduceEq, String.reduceNe, Int.reduceToNat, Int.reduceLT, Int.reduceLE, Int.reduceGT, Int.reduceGE, Int.reduceEq, Int.reduceNe, Int.reduceBEq, Int.reduceBNe, Int.reduceAdd, Int.reduceSub, Int.reduceMul, Int.reduceNeg,  *]))
  refine seq_spec G es bs cl b pv HN.out.1 HN.out.2.1 HN.out.2.2 _ HH.out.1 HH.out.2.1 (fun ds v m' h1 h2 h3 h4 h5 => ?_)
  have HE := Hid.mk (HH.out.2.2 ds v m' h1 h2 h3 h4 h5)
  have hf := h3.slv
  clear h1 h2 h3 h4 h5
  rcases hf with ⟨rfl, -⟩ | ⟨b5, o5, c5, rfl⟩
  all_goals (
    repeat' (first | exact tf0 ‹_› | exact tf1 ‹_› | exact False.elim ‹_› | (with_reducible refine Al.intro ?_; intro pb hpb; (try simp only [hupd_none'] at hpb); (repeat rcases hpb with ⟨⟨hpx, hpy⟩, hpb⟩)) | with_reducible refine need ?_ | ((with_reducible first | refine frk0 ?_ ?_ | refine frk1 ?_ ?_ | refine frk2 ?_ ?_ | refine frk3 ?_ ?_ | refine frk4 ?_ ?_ | refine frk5 ?_ ?_ | refine frk6 ?_ ?_ | refine frk7 ?_ ?_ | refine frk8 ?_ ?_ | refine frk9 ?_ ?_) <;> intro h <;> try (exfalso; omega)) | with_reducible refine quiet_and ?_ ?_ | with_reducible refine awp_drawnA mixed (by decide +kernel) ?_ | ((fail_if_success with_reducible refine stp ?_); simp -implicitDefEqProofs only [go_sem, Nat.reduceEqDiff, Nat.reduceAdd, Nat.reduceLT, Nat.reduceMul, Nat.reduceSub, Nat.reduceLeDiff, ↓reduceIte, reduceCtorEq, ↓String.reduceEq, String.reduceNe, Int.reduceToNat, Int.reduceLT, Int.reduceLE, Int.reduceGT, Int.reduceGE, Int.reduceEq, Int.reduceNe, Int.reduceBEq, Int.reduceBNe, Int.reduceAdd, Int.reduceSub, Int.reduceMul, Int.reduceNeg,  *]))
    exact ⟨_, Sub.refl _, HE.out⟩)
set_option maxHeartbeats 2000000 in
theorem sorted_spec (G : Nat → AVal) (es : List (Int × AVal)) (bs : List Nat) (cl b pv : Nat) {m : Heap} (hn : bs.Nodup) (hbl : bs.length = es.length) (hle : es.length ≤ 1000000) (hkn : (es.map (·.1)).Nodup) (K : AVal → Heap → Prop)
    (hpv : m pv = some (.cells [.map b] 1)) (hb : m b = some (.map es bs cl))
    (hK : ∀ L v m', L.Pairwise (· < ·) → (∀ x, x ∈ L ↔ x ∈ es.map (·.1)) → L.length ≤ es.length → SlM encI 1 L v m' → Sub m m' → (∀ c, bOf v = some c → m c = none) → K v m') : CallWP Tryd.prog G 39 [.func (.func 66) [] [.ptr pv 0]] m K := by
  have HH := Hid.mk (And.intro hpv (And.intro hb hK))
  have HN := Hid.mk (And.intro hn (And.intro hbl (And.intro hle hkn)))
  clear hK hn hbl hpv hb hle hkn
  refine callWP_body Tryd.func39 rfl (N := 9) rfl (rs := [.tmp 2]) rfl en_39 (of_decide_eq_true rfl) ?_
  repeat' (first | exact tf0 ‹_› | exact tf1 ‹_› | exact False.elim ‹_› | (with_reducible refine Al.intro ?_; intro pb hpb; (try simp only [hupd_none'] at hpb); (repeat rcases hpb with ⟨⟨hpx, hpy⟩, hpb⟩)) | with_reducible refine need ?_ | ((with_reducible first | refine frk0 ?_ ?_ | refine frk1 ?_ ?_ | refine frk2 ?_ ?_ | refine frk3 ?_ ?_ | refine frk4 ?_ ?_ | refine frk5 ?_ ?_ | refine frk6 ?_ ?_ | refine frk7 ?_ ?_ | refine frk8 ?_ ?_ | refine frk9 ?_ ?_) <;> intro h <;> try (exfalso; omega)) | with_reducible refine quiet_and ?_ ?_ | with_reducible refine awp_drawnA mixed (by decide +kernel) ?_ | ((fail_if_success with_reducible refine stp ?_); simp -implicitDefEqProofs only [go_sem, Nat.reduceEqDiff, Nat.reduceAdd, Nat.reduceLT, Nat.reduceMul, Nat.reduceSub, Nat.reduceLeDiff, ↓reduceIte, reduceCtorEq, ↓String.reduceEq, String.reduceNe, Int.reduceToNat, Int.reduceLT, Int.reduceLE, Int.reduceGT, Int.reduceGE, Int.reduceEq, Int.reduceNe, Int.reduceBEq, Int.reduceBNe, Int.reduceAdd, Int.reduceSub, Int.reduceMul, Int.reduceNeg,  *]))
  refine collect_spec G es bs cl b pv HN.out.1 HN.out.2.1 HN.out.2.2.1 _ HH.out.1 HH.out.2.1 (fun ds v m' h1 h2 h3 h4 h5 => ?_)
  have hlen : (keyAt es ds).length ≤ es.length := by
    have a1 : (keyAt es ds).length = ds.length := List.length_map _
    have a2 := nodup_le es.length ds h1 (fun i hi => (h2 i).2 hi)
    omega
  have HLN := Hid.mk hlen
  clear hlen
  have HE := Hid.mk (And.intro h1 (And.intro h2 (And.intro h3 (And.intro h4 h5))))
  have hf := h3.slv
  clear h1 h2 h3 h4 h5
  rcases hf with ⟨rfl, -⟩ | ⟨b5, o5, c5, rfl⟩
  all_goals (
    repeat' (first | exact tf0 ‹_› | exact tf1 ‹_› | exact False.elim ‹_› | (with_reducible refine Al.intro ?_; intro pb hpb; (try simp only [hupd_none'] at hpb); (repeat rcases hpb with ⟨⟨hpx, hpy⟩, hpb⟩)) | with_reducible refine need ?_ | ((with_reducible first | refine frk0 ?_ ?_ | refine frk1 ?_ ?_ | refine frk2 ?_ ?_ | refine frk3 ?_ ?_ | refine frk4 ?_ ?_ | refine frk5 ?_ ?_ | refine frk6 ?_ ?_ | refine frk7 ?_ ?_ | refine frk8 ?_ ?_ | refine frk9 ?_ ?_) <;> intro h <;> try (exfalso; omega)) | with_reducible refine quiet_and ?_ ?_ | with_reducible refine awp_drawnA mixed (by decide +kernel) ?_ | ((fail_if_success with_reducible refine stp ?_); simp -implicitDefEqProofs only [go_sem, Nat.reduceEqDiff, Nat.reduceAdd, Nat.reduceLT, Nat.reduceMul, Nat.reduceSub, Nat.reduceLeDiff, ↓reduceIte, reduceCtorEq, ↓String.reduceEq, String.reduceNe, Int.reduceToNat, Int.reduceLT, Int.reduceLE, Int.reduceGT, Int.reduceGE, Int.reduceEq, Int.reduceNe, Int.reduceBEq, Int.reduceBNe, Int.reduceAdd, Int.reduceSub, Int.reduceMul, Int.reduceNeg,  *]))
    refine isort_spec G (keyAt es ds) (by have := HLN.out; have := HN.out.2.2.1; omega) _ _ HE.out.2.2.1 _ (fun m2 k1 k2 => ?_)
    have ks : Sub m m2 := fun c x hx => by
      rw [k2 c (fun e => by have h := HE.out.2.2.2.2 c e; rw [hx] at h; cases h)]; exact HE.out.2.2.2.1 c x hx
    have HZ := Hid.mk (HH.out.2.2 (srtI (keyAt es ds)) _ m2 (srt_lt (key_nodup HN.out.2.2.2 HE.out.2.1 HE.out.1)) (fun x => (srt_mem _ x).trans (key_mem HE.out.2.1 x)) (by rw [show (srtI (keyAt es ds)).length = (keyAt es ds).length from List.length_mergeSort _]; exact HLN.out) k1 ks HE.out.2.2.2.2)
    clear k1 k2 ks
    repeat' (first | exact tf0 ‹_› | exact tf1 ‹_› | exact False.elim ‹_› | (with_reducible refine Al.intro ?_; intro pb hpb; (try simp only [hupd_none'] at hpb); (repeat rcases hpb with ⟨⟨hpx, hpy⟩, hpb⟩)) | with_reducible refine need ?_ | ((with_reducible first | refine frk0 ?_ ?_ | refine frk1 ?_ ?_ | refine frk2 ?_ ?_ | refine frk3 ?_ ?_ | refine frk4 ?_ ?_ | refine frk5 ?_ ?_ | refine frk6 ?_ ?_ | refine frk7 ?_ ?_ | refine frk8 ?_ ?_ | refine frk9 ?_ ?_) <;> intro h <;> try (exfalso; omega)) | with_reducible refine quiet_and ?_ ?_ | with_reducible refine awp_drawnA mixed (by decide +kernel) ?_ | ((fail_if_success with_reducible refine stp ?_); simp -implicitDefEqProofs only [go_sem, Nat.reduceEqDiff, Nat.reduceAdd, Nat.reduceLT, Nat.reduceMul, Nat.reduceSub, Nat.reduceLeDiff, ↓reduceIte, reduceCtorEq, ↓String.reduceEq, String.reduceNe, Int.reduceToNat, Int.reduceLT, Int.reduceLE, Int.reduceGT, Int.reduceGE, Int.reduceEq, Int.reduceNe, Int.reduceBEq, Int.reduceBNe, Int.reduceAdd, Int.reduceSub, Int.reduceMul, Int.reduceNeg,  *]))
    exact ⟨_, Sub.refl _, HZ.out⟩)
end Go.Proofs.YtmifapnmlhchlaaDoor
