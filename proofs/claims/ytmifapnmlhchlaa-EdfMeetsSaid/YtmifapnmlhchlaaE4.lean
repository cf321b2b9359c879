/- A heap of jobs: one more, and the first one out. -/
import Derived.Test.YtmifapnmlhchlaaE3
import Derived.Test.YtmifapnmlhchlaaLga
set_option linter.all false
namespace Go.Proofs.Ytmifapnmlhchlaa
open Go Go.Proofs.Ytmifapnmlhchlaa.Ab
open Go.Proofs (Try.prog)
set_option maxRecDepth 100000
theorem ltW_iff (n : Int) (a b : Wt) : ltW n a b = true ↔ LW n a b := by unfold ltW; rw [decide_eq_true_eq]
theorem ltW_false (n : Int) (a b : Wt) : ltW n a b = false ↔ ¬ LW n a b := by unfold ltW; rw [decide_eq_false_iff_not]
theorem woW (n : Int) : WO (ltW n) where
  asym a b h := by rw [ltW_iff] at h; rw [ltW_false]; unfold LW LJ at *; omega
  nt a b c h1 h2 := by rw [ltW_false] at *; unfold LW LJ at *; omega
abbrev Heaps (n : Int) (H : List Wt) : Prop := HeapO (ltW n) H H.length
def R1 (H : List Wt) : Prop := ∀ w ∈ H, rightJ w.1 = true
theorem R1.perm {H H' : List Wt} (h : R1 H) (hp : H'.Perm H) : R1 H' := fun w hw => h w (hp.mem_iff.1 hw)
set_option maxHeartbeats 1000000 in
theorem up_spec (G : Nat → AVal) {m : Heap} {p : Nat} {v : AVal} {n : Int} {H : List Wt} (h : HP m p v n H) (hn : 1 ≤ n) (hr : R1 H) (hl : H.length ≤ 1000) (j : Nat) (hj : j < H.length) (hu : UpI (ltW n) H H.length j) (K : AVal → Heap → Prop)
    (hK : ∀ H' m', HP m' p v n H' → H'.Perm H → Heaps n H' → Fr p v m v m' → K (.tuple []) m') : CallWP Try.prog G 45 [.iface 62 (.ptr p 0), .int .i64 j] m K := by
  have HQ := Hid.mk h
  have HU := Hid.mk hu
  have HR := Hid.mk hr
  have HK := Hid.mk hK
  clear h hu hr hK
  refine callWP_body Try.func45 rfl (N := 23) rfl (rs := []) rfl en_45 (of_decide_eq_true rfl) ?_
  repeat' (first | exact tf0 ‹_› | exact tf1 ‹_› | exact False.elim ‹_› | (with_reducible refine Al.intro ?_; intro pb hpb; (try simp only [hupd_none'] at hpb); (repeat rcases hpb with ⟨⟨hpx, hpy⟩, hpb⟩)) | with_reducible refine need ?_ | ((with_reducible first | refine frk0 ?_ ?_ | refine frk1 ?_ ?_ | refine frk2 ?_ ?_ | refine frk3 ?_ ?_ | refine frk4 ?_ ?_ | refine frk5 ?_ ?_ | refine frk6 ?_ ?_ | refine frk7 ?_ ?_ | refine frk8 ?_ ?_ | refine frk9 ?_ ?_) <;> intro h <;> try (exfalso; omega)) | with_reducible refine quiet_and ?_ ?_ | with_reducible refine awp_drawnA mixed (by decide +kernel) ?_ | ((fail_if_success with_reducible refine stp ?_); simp -implicitDefEqProofs only [go_sem, Nat.reduceEqDiff, Nat.reduceAdd, Nat.reduceLT, Nat.reduceMul, Nat.reduceSub, Nat.reduceLeDiff, ↓reduceIte, reduceCtorEq, ↓String.reduceEq, String.reduceNe, Int.reduceToNat, Int.reduceLT, Int.reduceLE, Int.reduceGT, Int.reduceGE, Int.reduceEq, Int.reduceNe, Int.reduceBEq, Int.reduceBNe, Int.reduceAdd, Int.reduceSub, Int.reduceMul, Int.reduceNeg,  *]))
  refine awp_loopP 0 (fun ts m' => ∃ H', Hid (HP m' p v n H') ∧ Hid (H'.Perm H) ∧ Hid (Heaps n H') ∧ Hid (Fr p v m v m'))
    (fun k ts m' => ∃ (j : Nat) (H' : List Wt), k = j ∧ ts 0 = .iface 62 (.ptr p 0) ∧ ts 1 = .int .i64 (j : Nat) ∧ j < H'.length ∧ Hid (HP m' p v n H') ∧ Hid (H'.Perm H) ∧ Hid (UpI (ltW n) H' H'.length j) ∧ Hid (Fr p v m v m')) j
    ⟨j, H, rfl, ttt, ttt, hj, HQ, Hid.mk (.refl _), HU, Hid.mk (Fr.refl _ _ _)⟩ ?_ ?_
  · clear HQ HU hj
    rintro k ts m' ⟨j, H', rfl, t0, t1, hj, HQ, HP', HU, HF⟩
    have hlen : H'.length = H.length := HP'.out.length_eq
    by_cases h0 : k = 0
    · subst h0
      have e1 : IntKind.i64.wrap (-1) = -1 := by decide
      have e2 : IntKind.i64.wrap ((-1 : Int).tdiv 2) = 0 := by decide
      repeat' (first | exact tf0 ‹_› | exact tf1 ‹_› | exact False.elim ‹_› | (with_reducible refine Al.intro ?_; intro pb hpb; (try simp only [hupd_none'] at hpb); (repeat rcases hpb with ⟨⟨hpx, hpy⟩, hpb⟩)) | with_reducible refine need ?_ | ((with_reducible first | refine frk0 ?_ ?_ | refine frk1 ?_ ?_ | refine frk2 ?_ ?_ | refine frk3 ?_ ?_ | refine frk4 ?_ ?_ | refine frk5 ?_ ?_ | refine frk6 ?_ ?_ | refine frk7 ?_ ?_ | refine frk8 ?_ ?_ | refine frk9 ?_ ?_) <;> intro h <;> try (exfalso; omega)) | with_reducible refine quiet_and ?_ ?_ | with_reducible refine awp_drawnA mixed (by decide +kernel) ?_ | ((fail_if_success with_reducible refine stp ?_); simp -implicitDefEqProofs only [go_sem, Nat.reduceEqDiff, Nat.reduceAdd, Nat.reduceLT, Nat.reduceMul, Nat.reduceSub, Nat.reduceLeDiff, ↓reduceIte, reduceCtorEq, ↓String.reduceEq, String.reduceNe, Int.reduceToNat, Int.reduceLT, Int.reduceLE, Int.reduceGT, Int.reduceGE, Int.reduceEq, Int.reduceNe, Int.reduceBEq, Int.reduceBNe, Int.reduceAdd, Int.reduceSub, Int.reduceMul, Int.reduceNeg,  *]))
      exact Again.intro ⟨H', HQ, HP', Hid.mk (HU.out.done (.inl rfl)), HF⟩
    · obtain ⟨i, hi⟩ : ∃ i, i = (k - 1) / 2 := ⟨_, rfl⟩
      have e1 : IntKind.i64.wrap ((k : Int) - 1) = (k : Int) - 1 := wrap_i64 (by omega) (by omega)
      have e2 : IntKind.i64.wrap (((k : Int) - 1).tdiv 2) = (i : Int) := by
        rw [Int.tdiv_eq_ediv_of_nonneg (by omega), wrap_i64 (by omega) (by omega)]; omega
      have hil : i < H'.length := by omega
      have hik : ¬ (i : Int) = (k : Int) := by omega
      have HI := Hid.mk hi
      clear hi
      repeat' (first | exact tf0 ‹_› | exact tf1 ‹_› | exact False.elim ‹_› | (with_reducible refine Al.intro ?_; intro pb hpb; (try simp only [hupd_none'] at hpb); (repeat rcases hpb with ⟨⟨hpx, hpy⟩, hpb⟩)) | with_reducible refine need ?_ | ((with_reducible first | refine frk0 ?_ ?_ | refine frk1 ?_ ?_ | refine frk2 ?_ ?_ | refine frk3 ?_ ?_ | refine frk4 ?_ ?_ | refine frk5 ?_ ?_ | refine frk6 ?_ ?_ | refine frk7 ?_ ?_ | refine frk8 ?_ ?_ | refine frk9 ?_ ?_) <;> intro h <;> try (exfalso; omega)) | with_reducible refine quiet_and ?_ ?_ | with_reducible refine awp_drawnA mixed (by decide +kernel) ?_ | ((fail_if_success with_reducible refine stp ?_); simp -implicitDefEqProofs only [go_sem, Nat.reduceEqDiff, Nat.reduceAdd, Nat.reduceLT, Nat.reduceMul, Nat.reduceSub, Nat.reduceLeDiff, ↓reduceIte, reduceCtorEq, ↓String.reduceEq, String.reduceNe, Int.reduceToNat, Int.reduceLT, Int.reduceLE, Int.reduceGT, Int.reduceGE, Int.reduceEq, Int.reduceNe, Int.reduceBEq, Int.reduceBNe, Int.reduceAdd, Int.reduceSub, Int.reduceMul, Int.reduceNeg,  *]))
      refine SpecWP.method mth_Less ?_
      refine CallWP.to (less_spec G HQ.out hn (HR.out.perm HP'.out) k i hj hil) ?_
      repeat' (first | exact tf0 ‹_› | exact tf1 ‹_› | exact False.elim ‹_› | (with_reducible refine Al.intro ?_; intro pb hpb; (try simp only [hupd_none'] at hpb); (repeat rcases hpb with ⟨⟨hpx, hpy⟩, hpb⟩)) | with_reducible refine need ?_ | ((with_reducible first | refine frk0 ?_ ?_ | refine frk1 ?_ ?_ | refine frk2 ?_ ?_ | refine frk3 ?_ ?_ | refine frk4 ?_ ?_ | refine frk5 ?_ ?_ | refine frk6 ?_ ?_ | refine frk7 ?_ ?_ | refine frk8 ?_ ?_ | refine frk9 ?_ ?_) <;> intro h <;> try (exfalso; omega)) | with_reducible refine quiet_and ?_ ?_ | with_reducible refine awp_drawnA mixed (by decide +kernel) ?_ | ((fail_if_success with_reducible refine stp ?_); simp -implicitDefEqProofs only [go_sem, Nat.reduceEqDiff, Nat.reduceAdd, Nat.reduceLT, Nat.reduceMul, Nat.reduceSub, Nat.reduceLeDiff, ↓reduceIte, reduceCtorEq, ↓String.reduceEq, String.reduceNe, Int.reduceToNat, Int.reduceLT, Int.reduceLE, Int.reduceGT, Int.reduceGE, Int.reduceEq, Int.reduceNe, Int.reduceBEq, Int.reduceBNe, Int.reduceAdd, Int.reduceSub, Int.reduceMul, Int.reduceNeg,  *]))
      · rename ltW n (H'.getD k default) (H'.getD i default) = false => hx
        exact Again.intro ⟨H', HQ, HP', Hid.mk (HU.out.done (.inr (by rw [← HI.out]; exact hx))), HF⟩
      · rename ltW n (H'.getD k default) (H'.getD i default) = true => hx
        have hx' : ltW n (H'.getD k default) (H'.getD ((k - 1) / 2) default) = true := by rw [← HI.out]; exact hx
        refine SpecWP.method mth_Swap ?_
        refine swap_spec G HQ.out i k hil hj _ (fun m2 q2 f2 => ?_)
        have Q2 := Hid.mk q2
        have F2 := Hid.mk (HF.out.trans (by rw [HQ.out.at_]; simp) f2)
        have st := HU.out.step (woW n) hj (by omega) hx'
        rw [← HI.out] at st
        have ST := Hid.mk st
        have PM := Hid.mk ((swp_perm H' i k hil hj).trans HP'.out)
        have hl2 : i < (swp H' i k).length := by rw [swp_len]; exact hil
        clear q2 f2 hx hx' st
        repeat' (first | exact tf0 ‹_› | exact tf1 ‹_› | exact False.elim ‹_› | (with_reducible refine Al.intro ?_; intro pb hpb; (try simp only [hupd_none'] at hpb); (repeat rcases hpb with ⟨⟨hpx, hpy⟩, hpb⟩)) | with_reducible refine need ?_ | ((with_reducible first | refine frk0 ?_ ?_ | refine frk1 ?_ ?_ | refine frk2 ?_ ?_ | refine frk3 ?_ ?_ | refine frk4 ?_ ?_ | refine frk5 ?_ ?_ | refine frk6 ?_ ?_ | refine frk7 ?_ ?_ | refine frk8 ?_ ?_ | refine frk9 ?_ ?_) <;> intro h <;> try (exfalso; omega)) | with_reducible refine quiet_and ?_ ?_ | with_reducible refine awp_drawnA mixed (by decide +kernel) ?_ | ((fail_if_success with_reducible refine stp ?_); simp -implicitDefEqProofs only [go_sem, Nat.reduceEqDiff, Nat.reduceAdd, Nat.reduceLT, Nat.reduceMul, Nat.reduceSub, Nat.reduceLeDiff, ↓reduceIte, reduceCtorEq, ↓String.reduceEq, String.reduceNe, Int.reduceToNat, Int.reduceLT, Int.reduceLE, Int.reduceGT, Int.reduceGE, Int.reduceEq, Int.reduceNe, Int.reduceBEq, Int.reduceBNe, Int.reduceAdd, Int.reduceSub, Int.reduceMul, Int.reduceNeg,  *]))
        exact Again.intro ⟨i, by have := HI.out; omega, _, Sub.refl _, i, swp H' i k, rfl, (by first | (simp only [upd, put, Nat.reduceEqDiff, ↓reduceIte, t0]; done) | (simp [upd, put, t0]; done) | rfl | (simp [upd, put, t0]; rfl)), ttt, hl2, Q2, PM, ST, F2⟩
  · rintro ts m' ⟨H', HQ', HP', HH, HF⟩
    repeat' (first | exact tf0 ‹_› | exact tf1 ‹_› | exact False.elim ‹_› | (with_reducible refine Al.intro ?_; intro pb hpb; (try simp only [hupd_none'] at hpb); (repeat rcases hpb with ⟨⟨hpx, hpy⟩, hpb⟩)) | with_reducible refine need ?_ | ((with_reducible first | refine frk0 ?_ ?_ | refine frk1 ?_ ?_ | refine frk2 ?_ ?_ | refine frk3 ?_ ?_ | refine frk4 ?_ ?_ | refine frk5 ?_ ?_ | refine frk6 ?_ ?_ | refine frk7 ?_ ?_ | refine frk8 ?_ ?_ | refine frk9 ?_ ?_) <;> intro h <;> try (exfalso; omega)) | with_reducible refine quiet_and ?_ ?_ | with_reducible refine awp_drawnA mixed (by decide +kernel) ?_ | ((fail_if_success with_reducible refine stp ?_); simp -implicitDefEqProofs only [go_sem, Nat.reduceEqDiff, Nat.reduceAdd, Nat.reduceLT, Nat.reduceMul, Nat.reduceSub, Nat.reduceLeDiff, ↓reduceIte, reduceCtorEq, ↓String.reduceEq, String.reduceNe, Int.reduceToNat, Int.reduceLT, Int.reduceLE, Int.reduceGT, Int.reduceGE, Int.reduceEq, Int.reduceNe, Int.reduceBEq, Int.reduceBNe, Int.reduceAdd, Int.reduceSub, Int.reduceMul, Int.reduceNeg,  *]))
    exact ⟨_, Sub.refl _, HK.out H' _ HQ'.out HP'.out HH.out HF.out⟩
set_option maxHeartbeats 2000000 in
theorem down_spec (G : Nat → AVal) {m : Heap} {p : Nat} {v : AVal} {n : Int} {H : List Wt} (h : HP m p v n H) (hn : 1 ≤ n) (hr : R1 H) (hl : H.length ≤ 1000) (z : Nat) (hz : z ≤ H.length) (hd : DnI (ltW n) H z 0) (K : AVal → Heap → Prop)
    (hK : ∀ b H' m', HP m' p v n H' → H'.Perm H → HeapO (ltW n) H' z → (∀ k, z ≤ k → H'.getD k default = H.getD k default) → Fr p v m v m' → K (.bool b) m') : CallWP Try.prog G 46 [.iface 62 (.ptr p 0), .int .i64 0, .int .i64 z] m K := by
  have HQ := Hid.mk h
  have HD := Hid.mk hd
  have HR := Hid.mk hr
  have HK := Hid.mk hK
  clear h hd hr hK
  refine callWP_body Try.func46 rfl (N := 48) rfl (rs := [.tmp 6]) rfl en_46 (of_decide_eq_true rfl) ?_
  repeat' (first | exact tf0 ‹_› | exact tf1 ‹_› | exact False.elim ‹_› | (with_reducible refine Al.intro ?_; intro pb hpb; (try simp only [hupd_none'] at hpb); (repeat rcases hpb with ⟨⟨hpx, hpy⟩, hpb⟩)) | with_reducible refine need ?_ | ((with_reducible first | refine frk0 ?_ ?_ | refine frk1 ?_ ?_ | refine frk2 ?_ ?_ | refine frk3 ?_ ?_ | refine frk4 ?_ ?_ | refine frk5 ?_ ?_ | refine frk6 ?_ ?_ | refine frk7 ?_ ?_ | refine frk8 ?_ ?_ | refine frk9 ?_ ?_) <;> intro h <;> try (exfalso; omega)) | with_reducible refine quiet_and ?_ ?_ | with_reducible refine awp_drawnA mixed (by decide +kernel) ?_ | ((fail_if_success with_reducible refine stp ?_); simp -implicitDefEqProofs only [go_sem, Nat.reduceEqDiff, Nat.reduceAdd, Nat.reduceLT, Nat.reduceMul, Nat.reduceSub, Nat.reduceLeDiff, ↓reduceIte, reduceCtorEq, ↓String.reduceEq, String.reduceNe, Int.reduceToNat, Int.reduceLT, Int.reduceLE, Int.reduceGT, Int.reduceGE, Int.reduceEq, Int.reduceNe, Int.reduceBEq, Int.reduceBNe, Int.reduceAdd, Int.reduceSub, Int.reduceMul, Int.reduceNeg,  *]))
  refine awp_loopP 0 (fun ts m' => ∃ (i : Nat) (H' : List Wt), ts 1 = .int .i64 0 ∧ ts 7 = .int .i64 (i : Nat) ∧ Hid (HP m' p v n H') ∧ Hid (H'.Perm H) ∧ Hid (HeapO (ltW n) H' z) ∧ Hid (∀ k, z ≤ k → H'.getD k default = H.getD k default) ∧ Hid (Fr p v m v m'))
    (fun k ts m' => ∃ (i : Nat) (H' : List Wt), k = z + 1 - i ∧ i ≤ z ∧ ts 0 = .iface 62 (.ptr p 0) ∧ ts 1 = .int .i64 0 ∧ ts 2 = .int .i64 (z : Nat) ∧ ts 7 = .int .i64 (i : Nat) ∧ Hid (HP m' p v n H') ∧ Hid (H'.Perm H) ∧ Hid (DnI (ltW n) H' z i) ∧ Hid (∀ k, z ≤ k → H'.getD k default = H.getD k default) ∧ Hid (Fr p v m v m')) (z + 1)
    ⟨0, H, by omega, Nat.zero_le _, ttt, ttt, ttt, ttt, HQ, Hid.mk (.refl _), HD, Hid.mk (fun _ _ => rfl), Hid.mk (Fr.refl _ _ _)⟩ ?_ ?_
  · clear HQ HD
    rintro k ts m' ⟨i, H', rfl, hiz, t0, t1, t2, t7, HQ, HP', HD, HE, HF⟩
    have hlen : H'.length = H.length := HP'.out.length_eq
    have e1 : IntKind.i64.wrap (2 * (i : Int)) = 2 * (i : Int) := wrap_i64 (by omega) (by omega)
    have e2 : IntKind.i64.wrap (2 * (i : Int) + 1) = ((2 * i + 1 : Nat) : Int) := by rw [wrap_i64 (by omega) (by omega)]; omega
    have e3 : IntKind.i64.wrap (((2 * i + 1 : Nat) : Int) + 1) = ((2 * i + 2 : Nat) : Int) := by rw [wrap_i64 (by omega) (by omega)]; omega
    by_cases h1 : 2 * i + 1 < z
    · have n1 : ¬ ((2 * i + 1 : Nat) : Int) ≥ (z : Int) := by omega
      have n2 : ¬ ((2 * i + 1 : Nat) : Int) < 0 := by omega
      -- behind the choice of a child
      have fin : ∀ (c : Nat), c < z → 1 ≤ c → (c - 1) / 2 = i → (∀ k, 1 ≤ k → k < z → (k - 1) / 2 = i → ltW n (H'.getD k default) (H'.getD c default) = false) →
          (ltW n (H'.getD c default) (H'.getD i default) = false → Hid (HeapO (ltW n) H' z)) ∧ (ltW n (H'.getD c default) (H'.getD i default) = true → Hid (DnI (ltW n) (swp H' i c) z c)) := fun c c1 c2 c3 c4 =>
        ⟨fun hx => Hid.mk (HD.out.done (fun k k1 k2 k3 => (woW n).nt _ _ _ (c4 k k1 k2 k3) hx)), fun hx => Hid.mk (HD.out.step (woW n) (by omega) c1 c2 c3 c4 hx)⟩
      have FIN := Hid.mk fin
      clear fin
      by_cases h2 : 2 * i + 2 < z
      · have p2 : ((2 * i + 2 : Nat) : Int) < (z : Int) := by omega
        repeat' (first | exact tf0 ‹_› | exact tf1 ‹_› | exact False.elim ‹_› | (with_reducible refine Al.intro ?_; intro pb hpb; (try simp only [hupd_none'] at hpb); (repeat rcases hpb with ⟨⟨hpx, hpy⟩, hpb⟩)) | with_reducible refine need ?_ | ((with_reducible first | refine frk0 ?_ ?_ | refine frk1 ?_ ?_ | refine frk2 ?_ ?_ | refine frk3 ?_ ?_ | refine frk4 ?_ ?_ | refine frk5 ?_ ?_ | refine frk6 ?_ ?_ | refine frk7 ?_ ?_ | refine frk8 ?_ ?_ | refine frk9 ?_ ?_) <;> intro h <;> try (exfalso; omega)) | with_reducible refine quiet_and ?_ ?_ | with_reducible refine awp_drawnA mixed (by decide +kernel) ?_ | ((fail_if_success with_reducible refine stp ?_); simp -implicitDefEqProofs only [go_sem, Nat.reduceEqDiff, Nat.reduceAdd, Nat.reduceLT, Nat.reduceMul, Nat.reduceSub, Nat.reduceLeDiff, ↓reduceIte, reduceCtorEq, ↓String.reduceEq, String.reduceNe, Int.reduceToNat, Int.reduceLT, Int.reduceLE, Int.reduceGT, Int.reduceGE, Int.reduceEq, Int.reduceNe, Int.reduceBEq, Int.reduceBNe, Int.reduceAdd, Int.reduceSub, Int.reduceMul, Int.reduceNeg,  *]))
        refine SpecWP.method mth_Less ?_
        refine CallWP.to (less_spec G HQ.out hn (HR.out.perm HP'.out) (2 * i + 2) (2 * i + 1) (by omega) (by omega)) ?_
        repeat' (first | exact tf0 ‹_› | exact tf1 ‹_› | exact False.elim ‹_› | (with_reducible refine Al.intro ?_; intro pb hpb; (try simp only [hupd_none'] at hpb); (repeat rcases hpb with ⟨⟨hpx, hpy⟩, hpb⟩)) | with_reducible refine need ?_ | ((with_reducible first | refine frk0 ?_ ?_ | refine frk1 ?_ ?_ | refine frk2 ?_ ?_ | refine frk3 ?_ ?_ | refine frk4 ?_ ?_ | refine frk5 ?_ ?_ | refine frk6 ?_ ?_ | refine frk7 ?_ ?_ | refine frk8 ?_ ?_ | refine frk9 ?_ ?_) <;> intro h <;> try (exfalso; omega)) | with_reducible refine quiet_and ?_ ?_ | with_reducible refine awp_drawnA mixed (by decide +kernel) ?_ | ((fail_if_success with_reducible refine stp ?_); simp -implicitDefEqProofs only [go_sem, Nat.reduceEqDiff, Nat.reduceAdd, Nat.reduceLT, Nat.reduceMul, Nat.reduceSub, Nat.reduceLeDiff, ↓reduceIte, reduceCtorEq, ↓String.reduceEq, String.reduceNe, Int.reduceToNat, Int.reduceLT, Int.reduceLE, Int.reduceGT, Int.reduceGE, Int.reduceEq, Int.reduceNe, Int.reduceBEq, Int.reduceBNe, Int.reduceAdd, Int.reduceSub, Int.reduceMul, Int.reduceNeg,  *]))
        · rename ltW n (H'.getD (2 * i + 2) default) (H'.getD (2 * i + 1) default) = true => hc
          obtain ⟨fd, fs⟩ := FIN.out (2 * i + 2) (by omega) (by omega) (by omega) (fun k k1 k2 k3 => by
            rcases (show k = 2 * i + 1 ∨ k = 2 * i + 2 by omega) with rfl | rfl
            · exact (woW n).asym _ _ hc
            · rw [ltW_false]; unfold LW LJ; omega)
          have FD := Hid.mk fd
          have FS := Hid.mk fs
          clear fd fs
          refine SpecWP.method mth_Less ?_
          refine CallWP.to (less_spec G HQ.out hn (HR.out.perm HP'.out) (2 * i + 2) i (by omega) (by omega)) ?_
          repeat' (first | exact tf0 ‹_› | exact tf1 ‹_› | exact False.elim ‹_› | (with_reducible refine Al.intro ?_; intro pb hpb; (try simp only [hupd_none'] at hpb); (repeat rcases hpb with ⟨⟨hpx, hpy⟩, hpb⟩)) | with_reducible refine need ?_ | ((with_reducible first | refine frk0 ?_ ?_ | refine frk1 ?_ ?_ | refine frk2 ?_ ?_ | refine frk3 ?_ ?_ | refine frk4 ?_ ?_ | refine frk5 ?_ ?_ | refine frk6 ?_ ?_ | refine frk7 ?_ ?_ | refine frk8 ?_ ?_ | refine frk9 ?_ ?_) <;> intro h <;> try (exfalso; omega)) | with_reducible refine quiet_and ?_ ?_ | with_reducible refine awp_drawnA mixed (by decide +kernel) ?_ | ((fail_if_success with_reducible refine stp ?_); simp -implicitDefEqProofs only [go_sem, Nat.reduceEqDiff, Nat.reduceAdd, Nat.reduceLT, Nat.reduceMul, Nat.reduceSub, Nat.reduceLeDiff, ↓reduceIte, reduceCtorEq, ↓String.reduceEq, String.reduceNe, Int.reduceToNat, Int.reduceLT, Int.reduceLE, Int.reduceGT, Int.reduceGE, Int.reduceEq, Int.reduceNe, Int.reduceBEq, Int.reduceBNe, Int.reduceAdd, Int.reduceSub, Int.reduceMul, Int.reduceNeg,  *]))
          · rename ltW n (H'.getD (2 * i + 2) default) (H'.getD i default) = false => hx
            exact Again.intro ⟨i, H', (by first | (simp only [upd, put, Nat.reduceEqDiff, ↓reduceIte, t1]; done) | (simp [upd, put, t1]; done) | rfl | (simp [upd, put, t1]; rfl)), (by first | (simp only [upd, put, Nat.reduceEqDiff, ↓reduceIte, t7]; done) | (simp [upd, put, t7]; done) | rfl | (simp [upd, put, t7]; rfl)), HQ, HP', FD.out hx, HE, HF⟩
          · rename ltW n (H'.getD (2 * i + 2) default) (H'.getD i default) = true => hx
            refine SpecWP.method mth_Swap ?_
            refine swap_spec G HQ.out i (2 * i + 2) (by omega) (by omega) _ (fun m2 q2 f2 => ?_)
            have Q2 := Hid.mk q2
            have F2 := Hid.mk (HF.out.trans (by rw [HQ.out.at_]; simp) f2)
            have PM := Hid.mk ((swp_perm H' i (2 * i + 2) (by omega) (by omega)).trans HP'.out)
            have ST := FS.out hx
            have E2 : Hid (∀ k, z ≤ k → (swp H' i (2 * i + 2)).getD k default = H.getD k default) := Hid.mk (fun k hk => by rw [swp_getD H' i (2 * i + 2) k (by omega) (by omega), if_neg (by omega), if_neg (by omega)]; exact HE.out k hk)
            clear q2 f2 hx
            repeat' (first | exact tf0 ‹_› | exact tf1 ‹_› | exact False.elim ‹_› | (with_reducible refine Al.intro ?_; intro pb hpb; (try simp only [hupd_none'] at hpb); (repeat rcases hpb with ⟨⟨hpx, hpy⟩, hpb⟩)) | with_reducible refine need ?_ | ((with_reducible first | refine frk0 ?_ ?_ | refine frk1 ?_ ?_ | refine frk2 ?_ ?_ | refine frk3 ?_ ?_ | refine frk4 ?_ ?_ | refine frk5 ?_ ?_ | refine frk6 ?_ ?_ | refine frk7 ?_ ?_ | refine frk8 ?_ ?_ | refine frk9 ?_ ?_) <;> intro h <;> try (exfalso; omega)) | with_reducible refine quiet_and ?_ ?_ | with_reducible refine awp_drawnA mixed (by decide +kernel) ?_ | ((fail_if_success with_reducible refine stp ?_); simp -implicitDefEqProofs only [go_sem, Nat.reduceEqDiff, Nat.reduceAdd, Nat.reduceLT, Nat.reduceMul, Nat.reduceSub, Nat.reduceLeDiff, ↓reduceIte, reduceCtorEq, ↓String.reduceEq, String.reduceNe, Int.reduceToNat, Int.reduceLT, Int.reduceLE, Int.reduceGT, Int.reduceGE, Int.reduceEq, Int.reduceNe, Int.reduceBEq, Int.reduceBNe, Int.reduceAdd, Int.reduceSub, Int.reduceMul, Int.reduceNeg,  *]))
            exact Again.intro ⟨z + 1 - (2 * i + 2), by omega, _, Sub.refl _, 2 * i + 2, swp H' i (2 * i + 2), rfl, by omega, (by first | (simp only [upd, put, Nat.reduceEqDiff, ↓reduceIte, t0]; done) | (simp [upd, put, t0]; done) | rfl | (simp [upd, put, t0]; rfl)), (by first | (simp only [upd, put, Nat.reduceEqDiff, ↓reduceIte, t1]; done) | (simp [upd, put, t1]; done) | rfl | (simp [upd, put, t1]; rfl)), (by first | (simp only [upd, put, Nat.reduceEqDiff, ↓reduceIte, t2]; done) | (simp [upd, put, t2]; done) | rfl | (simp [upd, put, t2]; rfl)), ttt, Q2, PM, ST, E2, F2⟩
        · rename ltW n (H'.getD (2 * i + 2) default) (H'.getD (2 * i + 1) default) = false => hc
          obtain ⟨fd, fs⟩ := FIN.out (2 * i + 1) (by omega) (by omega) (by omega) (fun k k1 k2 k3 => by
            rcases (show k = 2 * i + 1 ∨ k = 2 * i + 2 by omega) with rfl | rfl
            · rw [ltW_false]; unfold LW LJ; omega
            · exact hc)
          have FD := Hid.mk fd
          have FS := Hid.mk fs
          clear fd fs
          refine SpecWP.method mth_Less ?_
          refine CallWP.to (less_spec G HQ.out hn (HR.out.perm HP'.out) (2 * i + 1) i (by omega) (by omega)) ?_
          repeat' (first | exact tf0 ‹_› | exact tf1 ‹_› | exact False.elim ‹_› | (with_reducible refine Al.intro ?_; intro pb hpb; (try simp only [hupd_none'] at hpb); (repeat rcases hpb with ⟨⟨hpx, hpy⟩, hpb⟩)) | with_reducible refine need ?_ | ((with_reducible first | refine frk0 ?_ ?_ | refine frk1 ?_ ?_ | refine frk2 ?_ ?_ | refine frk3 ?_ ?_ | refine frk4 ?_ ?_ | refine frk5 ?_ ?_ | refine frk6 ?_ ?_ | refine frk7 ?_ ?_ | refine frk8 ?_ ?_ | refine frk9 ?_ ?_) <;> intro h <;> try (exfalso; omega)) | with_reducible refine quiet_and ?_ ?_ | with_reducible refine awp_drawnA mixed (by decide +kernel) ?_ | ((fail_if_success with_reducible refine stp ?_); simp -implicitDefEqProofs only [go_sem, Nat.reduceEqDiff, Nat.reduceAdd, Nat.reduceLT, Nat.reduceMul, Nat.reduceSub, Nat.reduceLeDiff, ↓reduceIte, reduceCtorEq, ↓String.reduceEq, String.reduceNe, Int.reduceToNat, Int.reduceLT, Int.reduceLE, Int.reduceGT, Int.reduceGE, Int.reduceEq, Int.reduceNe, Int.reduceBEq, Int.reduceBNe, Int.reduceAdd, Int.reduceSub, Int.reduceMul, Int.reduceNeg,  *]))
          · rename ltW n (H'.getD (2 * i + 1) default) (H'.getD i default) = false => hx
            exact Again.intro ⟨i, H', (by first | (simp only [upd, put, Nat.reduceEqDiff, ↓reduceIte, t1]; done) | (simp [upd, put, t1]; done) | rfl | (simp [upd, put, t1]; rfl)), (by first | (simp only [upd, put, Nat.reduceEqDiff, ↓reduceIte, t7]; done) | (simp [upd, put, t7]; done) | rfl | (simp [upd, put, t7]; rfl)), HQ, HP', FD.out hx, HE, HF⟩
          · rename ltW n (H'.getD (2 * i + 1) default) (H'.getD i default) = true => hx
            refine SpecWP.method mth_Swap ?_
            refine swap_spec G HQ.out i (2 * i + 1) (by omega) (by omega) _ (fun m2 q2 f2 => ?_)
            have Q2 := Hid.mk q2
            have F2 := Hid.mk (HF.out.trans (by rw [HQ.out.at_]; simp) f2)
            have PM := Hid.mk ((swp_perm H' i (2 * i + 1) (by omega) (by omega)).trans HP'.out)
            have ST := FS.out hx
            have E2 : Hid (∀ k, z ≤ k → (swp H' i (2 * i + 1)).getD k default = H.getD k default) := Hid.mk (fun k hk => by rw [swp_getD H' i (2 * i + 1) k (by omega) (by omega), if_neg (by omega), if_neg (by omega)]; exact HE.out k hk)
            clear q2 f2 hx
            repeat' (first | exact tf0 ‹_› | exact tf1 ‹_› | exact False.elim ‹_› | (with_reducible refine Al.intro ?_; intro pb hpb; (try simp only [hupd_none'] at hpb); (repeat rcases hpb with ⟨⟨hpx, hpy⟩, hpb⟩)) | with_reducible refine need ?_ | ((with_reducible first | refine frk0 ?_ ?_ | refine frk1 ?_ ?_ | refine frk2 ?_ ?_ | refine frk3 ?_ ?_ | refine frk4 ?_ ?_ | refine frk5 ?_ ?_ | refine frk6 ?_ ?_ | refine frk7 ?_ ?_ | refine frk8 ?_ ?_ | refine frk9 ?_ ?_) <;> intro h <;> try (exfalso; omega)) | with_reducible refine quiet_and ?_ ?_ | with_reducible refine awp_drawnA mixed (by decide +kernel) ?_ | ((fail_if_success with_reducible refine stp ?_); simp -implicitDefEqProofs only [go_sem, Nat.reduceEqDiff, Nat.reduceAdd, Nat.reduceLT, Nat.reduceMul, Nat.reduceSub, Nat.reduceLeDiff, ↓reduceIte, reduceCtorEq, ↓String.reduceEq, String.reduceNe, Int.reduceToNat, Int.reduceLT, Int.reduceLE, Int.reduceGT, Int.reduceGE, Int.reduceEq, Int.reduceNe, Int.reduceBEq, Int.reduceBNe, Int.reduceAdd, Int.reduceSub, Int.reduceMul, Int.reduceNeg,  *]))
            exact Again.intro ⟨z + 1 - (2 * i + 1), by omega, _, Sub.refl _, 2 * i + 1, swp H' i (2 * i + 1), rfl, by omega, (by first | (simp only [upd, put, Nat.reduceEqDiff, ↓reduceIte, t0]; done) | (simp [upd, put, t0]; done) | rfl | (simp [upd, put, t0]; rfl)), (by first | (simp only [upd, put, Nat.reduceEqDiff, ↓reduceIte, t1]; done) | (simp [upd, put, t1]; done) | rfl | (simp [upd, put, t1]; rfl)), (by first | (simp only [upd, put, Nat.reduceEqDiff, ↓reduceIte, t2]; done) | (simp [upd, put, t2]; done) | rfl | (simp [upd, put, t2]; rfl)), ttt, Q2, PM, ST, E2, F2⟩
      · have p2 : ¬ ((2 * i + 2 : Nat) : Int) < (z : Int) := by omega
        repeat' (first | exact tf0 ‹_› | exact tf1 ‹_› | exact False.elim ‹_› | (with_reducible refine Al.intro ?_; intro pb hpb; (try simp only [hupd_none'] at hpb); (repeat rcases hpb with ⟨⟨hpx, hpy⟩, hpb⟩)) | with_reducible refine need ?_ | ((with_reducible first | refine frk0 ?_ ?_ | refine frk1 ?_ ?_ | refine frk2 ?_ ?_ | refine frk3 ?_ ?_ | refine frk4 ?_ ?_ | refine frk5 ?_ ?_ | refine frk6 ?_ ?_ | refine frk7 ?_ ?_ | refine frk8 ?_ ?_ | refine frk9 ?_ ?_) <;> intro h <;> try (exfalso; omega)) | with_reducible refine quiet_and ?_ ?_ | with_reducible refine awp_drawnA mixed (by decide +kernel) ?_ | ((fail_if_success with_reducible refine stp ?_); simp -implicitDefEqProofs only [go_sem, Nat.reduceEqDiff, Nat.reduceAdd, Nat.reduceLT, Nat.reduceMul, Nat.reduceSub, Nat.reduceLeDiff, ↓reduceIte, reduceCtorEq, ↓String.reduceEq, String.reduceNe, Int.reduceToNat, Int.reduceLT, Int.reduceLE, Int.reduceGT, Int.reduceGE, Int.reduceEq, Int.reduceNe, Int.reduceBEq, Int.reduceBNe, Int.reduceAdd, Int.reduceSub, Int.reduceMul, Int.reduceNeg,  *]))
        obtain ⟨fd, fs⟩ := FIN.out (2 * i + 1) (by omega) (by omega) (by omega) (fun k k1 k2 k3 => by
          obtain rfl : k = 2 * i + 1 := by omega
          rw [ltW_false]; unfold LW LJ; omega)
        have FD := Hid.mk fd
        have FS := Hid.mk fs
        clear fd fs
        refine SpecWP.method mth_Less ?_
        refine CallWP.to (less_spec G HQ.out hn (HR.out.perm HP'.out) (2 * i + 1) i (by omega) (by omega)) ?_
        repeat' (first | exact tf0 ‹_› | exact tf1 ‹_› | exact False.elim ‹_› | (with_reducible refine Al.intro ?_; intro pb hpb; (try simp only [hupd_none'] at hpb); (repeat rcases hpb with ⟨⟨hpx, hpy⟩, hpb⟩)) | with_reducible refine need ?_ | ((with_reducible first | refine frk0 ?_ ?_ | refine frk1 ?_ ?_ | refine frk2 ?_ ?_ | refine frk3 ?_ ?_ | refine frk4 ?_ ?_ | refine frk5 ?_ ?_ | refine frk6 ?_ ?_ | refine frk7 ?_ ?_ | refine frk8 ?_ ?_ | refine frk9 ?_ ?_) <;> intro h <;> try (exfalso; omega)) | with_reducible refine quiet_and ?_ ?_ | with_reducible refine awp_drawnA mixed (by decide +kernel) ?_ | ((fail_if_success with_reducible refine stp ?_); simp -implicitDefEqProofs only [go_sem, Nat.reduceEqDiff, Nat.reduceAdd, Nat.reduceLT, Nat.reduceMul, Nat.reduceSub, Nat.reduceLeDiff, ↓reduceIte, reduceCtorEq, ↓String.reduceEq, String.reduceNe, Int.reduceToNat, Int.reduceLT, Int.reduceLE, Int.reduceGT, Int.reduceGE, Int.reduceEq, Int.reduceNe, Int.reduceBEq, Int.reduceBNe, Int.reduceAdd, Int.reduceSub, Int.reduceMul, Int.reduceNeg,  *]))
        · rename ltW n (H'.getD (2 * i + 1) default) (H'.getD i default) = false => hx
          exact Again.intro ⟨i, H', (by first | (simp only [upd, put, Nat.reduceEqDiff, ↓reduceIte, t1]; done) | (simp [upd, put, t1]; done) | rfl | (simp [upd, put, t1]; rfl)), (by first | (simp only [upd, put, Nat.reduceEqDiff, ↓reduceIte, t7]; done) | (simp [upd, put, t7]; done) | rfl | (simp [upd, put, t7]; rfl)), HQ, HP', FD.out hx, HE, HF⟩
        · rename ltW n (H'.getD (2 * i + 1) default) (H'.getD i default) = true => hx
          refine SpecWP.method mth_Swap ?_
          refine swap_spec G HQ.out i (2 * i + 1) (by omega) (by omega) _ (fun m2 q2 f2 => ?_)
          have Q2 := Hid.mk q2
          have F2 := Hid.mk (HF.out.trans (by rw [HQ.out.at_]; simp) f2)
          have PM := Hid.mk ((swp_perm H' i (2 * i + 1) (by omega) (by omega)).trans HP'.out)
          have ST := FS.out hx
          have E2 : Hid (∀ k, z ≤ k → (swp H' i (2 * i + 1)).getD k default = H.getD k default) := Hid.mk (fun k hk => by rw [swp_getD H' i (2 * i + 1) k (by omega) (by omega), if_neg (by omega), if_neg (by omega)]; exact HE.out k hk)
          clear q2 f2 hx
          repeat' (first | exact tf0 ‹_› | exact tf1 ‹_› | exact False.elim ‹_› | (with_reducible refine Al.intro ?_; intro pb hpb; (try simp only [hupd_none'] at hpb); (repeat rcases hpb with ⟨⟨hpx, hpy⟩, hpb⟩)) | with_reducible refine need ?_ | ((with_reducible first | refine frk0 ?_ ?_ | refine frk1 ?_ ?_ | refine frk2 ?_ ?_ | refine frk3 ?_ ?_ | refine frk4 ?_ ?_ | refine frk5 ?_ ?_ | refine frk6 ?_ ?_ | refine frk7 ?_ ?_ | refine frk8 ?_ ?_ | refine frk9 ?_ ?_) <;> intro h <;> try (exfalso; omega)) | with_reducible refine quiet_and ?_ ?_ | with_reducible refine awp_drawnA mixed (by decide +kernel) ?_ | ((fail_if_success with_reducible refine stp ?_); simp -implicitDefEqProofs only [go_sem, Nat.reduceEqDiff, Nat.reduceAdd, Nat.reduceLT, Nat.reduceMul, Nat.reduceSub, Nat.reduceLeDiff, ↓reduceIte, reduceCtorEq, ↓String.reduceEq, String.reduceNe, Int.reduceToNat, Int.reduceLT, Int.reduceLE, Int.reduceGT, Int.reduceGE, Int.reduceEq, Int.reduceNe, Int.reduceBEq, Int.reduceBNe, Int.reduceAdd, Int.reduceSub, Int.reduceMul, Int.reduceNeg,  *]))
          exact Again.intro ⟨z + 1 - (2 * i + 1), by omega, _, Sub.refl _, 2 * i + 1, swp H' i (2 * i + 1), rfl, by omega, (by first | (simp only [upd, put, Nat.reduceEqDiff, ↓reduceIte, t0]; done) | (simp [upd, put, t0]; done) | rfl | (simp [upd, put, t0]; rfl)), (by first | (simp only [upd, put, Nat.reduceEqDiff, ↓reduceIte, t1]; done) | (simp [upd, put, t1]; done) | rfl | (simp [upd, put, t1]; rfl)), (by first | (simp only [upd, put, Nat.reduceEqDiff, ↓reduceIte, t2]; done) | (simp [upd, put, t2]; done) | rfl | (simp [upd, put, t2]; rfl)), ttt, Q2, PM, ST, E2, F2⟩
    · have n1 : ((2 * i + 1 : Nat) : Int) ≥ (z : Int) := by omega
      repeat' (first | exact tf0 ‹_› | exact tf1 ‹_› | exact False.elim ‹_› | (with_reducible refine Al.intro ?_; intro pb hpb; (try simp only [hupd_none'] at hpb); (repeat rcases hpb with ⟨⟨hpx, hpy⟩, hpb⟩)) | with_reducible refine need ?_ | ((with_reducible first | refine frk0 ?_ ?_ | refine frk1 ?_ ?_ | refine frk2 ?_ ?_ | refine frk3 ?_ ?_ | refine frk4 ?_ ?_ | refine frk5 ?_ ?_ | refine frk6 ?_ ?_ | refine frk7 ?_ ?_ | refine frk8 ?_ ?_ | refine frk9 ?_ ?_) <;> intro h <;> try (exfalso; omega)) | with_reducible refine quiet_and ?_ ?_ | with_reducible refine awp_drawnA mixed (by decide +kernel) ?_ | ((fail_if_success with_reducible refine stp ?_); simp -implicitDefEqProofs only [go_sem, Nat.reduceEqDiff, Nat.reduceAdd, Nat.reduceLT, Nat.reduceMul, Nat.reduceSub, Nat.reduceLeDiff, ↓reduceIte, reduceCtorEq, ↓String.reduceEq, String.reduceNe, Int.reduceToNat, Int.reduceLT, Int.reduceLE, Int.reduceGT, Int.reduceGE, Int.reduceEq, Int.reduceNe, Int.reduceBEq, Int.reduceBNe, Int.reduceAdd, Int.reduceSub, Int.reduceMul, Int.reduceNeg,  *]))
      exact Again.intro ⟨i, H', (by first | (simp only [upd, put, Nat.reduceEqDiff, ↓reduceIte, t1]; done) | (simp [upd, put, t1]; done) | rfl | (simp [upd, put, t1]; rfl)), (by first | (simp only [upd, put, Nat.reduceEqDiff, ↓reduceIte, t7]; done) | (simp [upd, put, t7]; done) | rfl | (simp [upd, put, t7]; rfl)), HQ, HP', Hid.mk (HD.out.done (fun k k1 k2 k3 => by omega)), HE, HF⟩
  · rintro ts m' ⟨i, H', t1, t7, HQ', HP', HH, HE, HF⟩
    repeat' (first | exact tf0 ‹_› | exact tf1 ‹_› | exact False.elim ‹_› | (with_reducible refine Al.intro ?_; intro pb hpb; (try simp only [hupd_none'] at hpb); (repeat rcases hpb with ⟨⟨hpx, hpy⟩, hpb⟩)) | with_reducible refine need ?_ | ((with_reducible first | refine frk0 ?_ ?_ | refine frk1 ?_ ?_ | refine frk2 ?_ ?_ | refine frk3 ?_ ?_ | refine frk4 ?_ ?_ | refine frk5 ?_ ?_ | refine frk6 ?_ ?_ | refine frk7 ?_ ?_ | refine frk8 ?_ ?_ | refine frk9 ?_ ?_) <;> intro h <;> try (exfalso; omega)) | with_reducible refine quiet_and ?_ ?_ | with_reducible refine awp_drawnA mixed (by decide +kernel) ?_ | ((fail_if_success with_reducible refine stp ?_); simp -implicitDefEqProofs only [go_sem, Nat.reduceEqDiff, Nat.reduceAdd, Nat.reduceLT, Nat.reduceMul, Nat.reduceSub, Nat.reduceLeDiff, ↓reduceIte, reduceCtorEq, ↓String.reduceEq, String.reduceNe, Int.reduceToNat, Int.reduceLT, Int.reduceLE, Int.reduceGT, Int.reduceGE, Int.reduceEq, Int.reduceNe, Int.reduceBEq, Int.reduceBNe, Int.reduceAdd, Int.reduceSub, Int.reduceMul, Int.reduceNeg,  *]))
    exact ⟨_, Sub.refl _, HK.out _ H' _ HQ'.out HP'.out HH.out HE.out HF.out⟩
set_option maxHeartbeats 1000000 in
theorem hpush_spec (G : Nat → AVal) {m : Heap} {p : Nat} {v : AVal} {n : Int} {H : List Wt} (h : HP m p v n H) (hn : 1 ≤ n) (hr : R1 H) (hl : H.length < 1000) (hh : Heaps n H) (w : Wt) (hw : rightJ w.1 = true) (K : AVal → Heap → Prop)
    (hK : ∀ v' H' m', HP m' p v' n H' → H'.Perm (H ++ [w]) → Heaps n H' → Fr p v m v' m' → K (.tuple []) m') : CallWP Try.prog G 27 [.iface 62 (.ptr p 0), .iface 67 (encWt w)] m K := by
  have HQ := Hid.mk h
  have HR := Hid.mk hr
  have HH := Hid.mk hh
  have HK := Hid.mk hK
  have HW := Hid.mk hw
  clear h hr hK hh hw
  refine callWP_body Try.func27 rfl (N := 12) rfl (rs := []) rfl en_27 (of_decide_eq_true rfl) ?_
  repeat' (first | exact tf0 ‹_› | exact tf1 ‹_› | exact False.elim ‹_› | (with_reducible refine Al.intro ?_; intro pb hpb; (try simp only [hupd_none'] at hpb); (repeat rcases hpb with ⟨⟨hpx, hpy⟩, hpb⟩)) | with_reducible refine need ?_ | ((with_reducible first | refine frk0 ?_ ?_ | refine frk1 ?_ ?_ | refine frk2 ?_ ?_ | refine frk3 ?_ ?_ | refine frk4 ?_ ?_ | refine frk5 ?_ ?_ | refine frk6 ?_ ?_ | refine frk7 ?_ ?_ | refine frk8 ?_ ?_ | refine frk9 ?_ ?_) <;> intro h <;> try (exfalso; omega)) | with_reducible refine quiet_and ?_ ?_ | with_reducible refine awp_drawnA mixed (by decide +kernel) ?_ | ((fail_if_success with_reducible refine stp ?_); simp -implicitDefEqProofs only [go_sem, Nat.reduceEqDiff, Nat.reduceAdd, Nat.reduceLT, Nat.reduceMul, Nat.reduceSub, Nat.reduceLeDiff, ↓reduceIte, reduceCtorEq, ↓String.reduceEq, String.reduceNe, Int.reduceToNat, Int.reduceLT, Int.reduceLE, Int.reduceGT, Int.reduceGE, Int.reduceEq, Int.reduceNe, Int.reduceBEq, Int.reduceBNe, Int.reduceAdd, Int.reduceSub, Int.reduceMul, Int.reduceNeg,  *]))
  refine SpecWP.method mth_Push ?_
  refine push_spec G HQ.out (by omega) w _ (fun v2 m2 q2 f2 => ?_)
  have Q2 := Hid.mk q2
  have F2 := Hid.mk f2
  have hlen : (H ++ [w]).length = H.length + 1 := by simp
  clear q2 f2
  repeat' (first | exact tf0 ‹_› | exact tf1 ‹_› | exact False.elim ‹_› | (with_reducible refine Al.intro ?_; intro pb hpb; (try simp only [hupd_none'] at hpb); (repeat rcases hpb with ⟨⟨hpx, hpy⟩, hpb⟩)) | with_reducible refine need ?_ | ((with_reducible first | refine frk0 ?_ ?_ | refine frk1 ?_ ?_ | refine frk2 ?_ ?_ | refine frk3 ?_ ?_ | refine frk4 ?_ ?_ | refine frk5 ?_ ?_ | refine frk6 ?_ ?_ | refine frk7 ?_ ?_ | refine frk8 ?_ ?_ | refine frk9 ?_ ?_) <;> intro h <;> try (exfalso; omega)) | with_reducible refine quiet_and ?_ ?_ | with_reducible refine awp_drawnA mixed (by decide +kernel) ?_ | ((fail_if_success with_reducible refine stp ?_); simp -implicitDefEqProofs only [go_sem, Nat.reduceEqDiff, Nat.reduceAdd, Nat.reduceLT, Nat.reduceMul, Nat.reduceSub, Nat.reduceLeDiff, ↓reduceIte, reduceCtorEq, ↓String.reduceEq, String.reduceNe, Int.reduceToNat, Int.reduceLT, Int.reduceLE, Int.reduceGT, Int.reduceGE, Int.reduceEq, Int.reduceNe, Int.reduceBEq, Int.reduceBNe, Int.reduceAdd, Int.reduceSub, Int.reduceMul, Int.reduceNeg,  *]))
  refine SpecWP.method mth_Len ?_
  refine CallWP.to (len_spec G Q2.out) ?_
  have w1 : IntKind.i64.wrap (((H.length + 1 : Nat) : Int) - 1) = (H.length : Int) := by rw [wrap_i64 (by omega) (by omega)]; omega
  repeat' (first | exact tf0 ‹_› | exact tf1 ‹_› | exact False.elim ‹_› | (with_reducible refine Al.intro ?_; intro pb hpb; (try simp only [hupd_none'] at hpb); (repeat rcases hpb with ⟨⟨hpx, hpy⟩, hpb⟩)) | with_reducible refine need ?_ | ((with_reducible first | refine frk0 ?_ ?_ | refine frk1 ?_ ?_ | refine frk2 ?_ ?_ | refine frk3 ?_ ?_ | refine frk4 ?_ ?_ | refine frk5 ?_ ?_ | refine frk6 ?_ ?_ | refine frk7 ?_ ?_ | refine frk8 ?_ ?_ | refine frk9 ?_ ?_) <;> intro h <;> try (exfalso; omega)) | with_reducible refine quiet_and ?_ ?_ | with_reducible refine awp_drawnA mixed (by decide +kernel) ?_ | ((fail_if_success with_reducible refine stp ?_); simp -implicitDefEqProofs only [go_sem, Nat.reduceEqDiff, Nat.reduceAdd, Nat.reduceLT, Nat.reduceMul, Nat.reduceSub, Nat.reduceLeDiff, ↓reduceIte, reduceCtorEq, ↓String.reduceEq, String.reduceNe, Int.reduceToNat, Int.reduceLT, Int.reduceLE, Int.reduceGT, Int.reduceGE, Int.reduceEq, Int.reduceNe, Int.reduceBEq, Int.reduceBNe, Int.reduceAdd, Int.reduceSub, Int.reduceMul, Int.reduceNeg,  *]))
  have hr' : R1 (H ++ [w]) := fun x hx => by
    rcases List.mem_append.1 hx with hx | hx
    · exact HR.out x hx
    · rw [List.mem_singleton] at hx; rw [hx]; exact HW.out
  refine up_spec G Q2.out hn hr' (by omega) H.length (by omega) (by rw [hlen]; exact UpI.start HH.out w) _ (fun H' m3 q3 p3 h3 f3 => ?_)
  have F3 := Hid.mk (F2.out.trans (by rw [Q2.out.at_]; simp) f3)
  have Q3 := Hid.mk q3
  have P3 := Hid.mk p3
  have H3 := Hid.mk h3
  clear q3 p3 h3 f3
  repeat' (first | exact tf0 ‹_› | exact tf1 ‹_› | exact False.elim ‹_› | (with_reducible refine Al.intro ?_; intro pb hpb; (try simp only [hupd_none'] at hpb); (repeat rcases hpb with ⟨⟨hpx, hpy⟩, hpb⟩)) | with_reducible refine need ?_ | ((with_reducible first | refine frk0 ?_ ?_ | refine frk1 ?_ ?_ | refine frk2 ?_ ?_ | refine frk3 ?_ ?_ | refine frk4 ?_ ?_ | refine frk5 ?_ ?_ | refine frk6 ?_ ?_ | refine frk7 ?_ ?_ | refine frk8 ?_ ?_ | refine frk9 ?_ ?_) <;> intro h <;> try (exfalso; omega)) | with_reducible refine quiet_and ?_ ?_ | with_reducible refine awp_drawnA mixed (by decide +kernel) ?_ | ((fail_if_success with_reducible refine stp ?_); simp -implicitDefEqProofs only [go_sem, Nat.reduceEqDiff, Nat.reduceAdd, Nat.reduceLT, Nat.reduceMul, Nat.reduceSub, Nat.reduceLeDiff, ↓reduceIte, reduceCtorEq, ↓String.reduceEq, String.reduceNe, Int.reduceToNat, Int.reduceLT, Int.reduceLE, Int.reduceGT, Int.reduceGE, Int.reduceEq, Int.reduceNe, Int.reduceBEq, Int.reduceBNe, Int.reduceAdd, Int.reduceSub, Int.reduceMul, Int.reduceNeg,  *]))
  exact ⟨_, Sub.refl _, HK.out v2 H' _ Q3.out P3.out H3.out F3.out⟩
/-- The first one, and all others. -/
structure Popped (n : Int) (H : List Wt) (w : Wt) (H' : List Wt) : Prop where
  perm : (w :: H').Perm H
  heap : Heaps n H'
  least : ∀ x ∈ H, ltW n x w = false
theorem getD_dropLast (H : List Wt) (k : Nat) (hk : k < H.length - 1) : H.dropLast.getD k default = H.getD k default := by
  simp only [List.getD_eq_getElem?_getD, List.getElem?_dropLast, if_pos hk]
theorem popped {n : Int} {H H' : List Wt} (h : Heaps n H) (h0 : 0 < H.length) (hp : H'.Perm (swp H 0 (H.length - 1))) (hh : HeapO (ltW n) H' (H.length - 1)) (he : ∀ k, H.length - 1 ≤ k → H'.getD k default = (swp H 0 (H.length - 1)).getD k default) :
    H'.getD (H'.length - 1) default = H.getD 0 default ∧ Popped n H (H.getD 0 default) H'.dropLast := by
  have hl : H'.length = H.length := by rw [hp.length_eq, swp_len]
  have e1 : H'.getD (H'.length - 1) default = H.getD 0 default := by rw [hl, he _ (Nat.le_refl _), swp_last H h0]
  refine ⟨e1, ?_, ?_, ?_⟩
  · have hne : H' ≠ [] := fun e => by rw [e] at hl; simp at hl; omega
    have e2 := List.dropLast_concat_getLast hne
    have e3 : H'.getLast hne = H.getD 0 default := by rw [← e1, List.getLast_eq_getElem, List.getD_eq_getElem?_getD, List.getElem?_eq_getElem (by omega)]; rfl
    rw [e3] at e2
    have : (H.getD 0 default :: H'.dropLast).Perm H' := by
      conv => rhs; rw [← e2]
      exact (List.perm_append_singleton _ _).symm
    exact this.trans (hp.trans (swp_perm H 0 (H.length - 1) h0 (by omega)))
  · intro k k1 k2
    rw [List.length_dropLast] at k2
    rw [getD_dropLast H' k k2, getD_dropLast H' _ (by omega)]
    exact hh k k1 (by omega)
  · intro x hx
    obtain ⟨k, hk, rfl⟩ := List.getElem_of_mem hx
    have := HeapO.root (woW n) h k hk
    have e : H.getD k default = H[k] := by simp [List.getD_eq_getElem?_getD, hk]
    rw [e] at this; exact this
set_option maxHeartbeats 1000000 in
theorem hpop_spec (G : Nat → AVal) {m : Heap} {p : Nat} {v : AVal} {n : Int} {H : List Wt} (h : HP m p v n H) (hn : 1 ≤ n) (hr : R1 H) (hl : H.length < 1000) (h0 : 0 < H.length) (hh : Heaps n H) (K : AVal → Heap → Prop)
    (hK : ∀ w v' H' m', HP m' p v' n H' → Popped n H w H' → Fr p v m v' m' → K (.iface 67 (encWt w)) m') : CallWP Try.prog G 28 [.iface 62 (.ptr p 0)] m K := by
  have HQ := Hid.mk h
  have HR := Hid.mk hr
  have HH := Hid.mk hh
  have HK := Hid.mk hK
  have w1 : IntKind.i64.wrap ((H.length : Int) - 1) = ((H.length - 1 : Nat) : Int) := by rw [wrap_i64 (by omega) (by omega)]; omega
  clear h hr hK hh
  refine callWP_body Try.func28 rfl (N := 15) rfl (rs := [.tmp 2]) rfl en_28 (of_decide_eq_true rfl) ?_
  repeat' (first | exact tf0 ‹_› | exact tf1 ‹_› | exact False.elim ‹_› | (with_reducible refine Al.intro ?_; intro pb hpb; (try simp only [hupd_none'] at hpb); (repeat rcases hpb with ⟨⟨hpx, hpy⟩, hpb⟩)) | with_reducible refine need ?_ | ((with_reducible first | refine frk0 ?_ ?_ | refine frk1 ?_ ?_ | refine frk2 ?_ ?_ | refine frk3 ?_ ?_ | refine frk4 ?_ ?_ | refine frk5 ?_ ?_ | refine frk6 ?_ ?_ | refine frk7 ?_ ?_ | refine frk8 ?_ ?_ | refine frk9 ?_ ?_) <;> intro h <;> try (exfalso; omega)) | with_reducible refine quiet_and ?_ ?_ | with_reducible refine awp_drawnA mixed (by decide +kernel) ?_ | ((fail_if_success with_reducible refine stp ?_); simp -implicitDefEqProofs only [go_sem, Nat.reduceEqDiff, Nat.reduceAdd, Nat.reduceLT, Nat.reduceMul, Nat.reduceSub, Nat.reduceLeDiff, ↓reduceIte, reduceCtorEq, ↓String.reduceEq, String.reduceNe, Int.reduceToNat, Int.reduceLT, Int.reduceLE, Int.reduceGT, Int.reduceGE, Int.reduceEq, Int.reduceNe, Int.reduceBEq, Int.reduceBNe, Int.reduceAdd, Int.reduceSub, Int.reduceMul, Int.reduceNeg,  *]))
  refine SpecWP.method mth_Len ?_
  refine CallWP.to (len_spec G HQ.out) ?_
  repeat' (first | exact tf0 ‹_› | exact tf1 ‹_› | exact False.elim ‹_› | (with_reducible refine Al.intro ?_; intro pb hpb; (try simp only [hupd_none'] at hpb); (repeat rcases hpb with ⟨⟨hpx, hpy⟩, hpb⟩)) | with_reducible refine need ?_ | ((with_reducible first | refine frk0 ?_ ?_ | refine frk1 ?_ ?_ | refine frk2 ?_ ?_ | refine frk3 ?_ ?_ | refine frk4 ?_ ?_ | refine frk5 ?_ ?_ | refine frk6 ?_ ?_ | refine frk7 ?_ ?_ | refine frk8 ?_ ?_ | refine frk9 ?_ ?_) <;> intro h <;> try (exfalso; omega)) | with_reducible refine quiet_and ?_ ?_ | with_reducible refine awp_drawnA mixed (by decide +kernel) ?_ | ((fail_if_success with_reducible refine stp ?_); simp -implicitDefEqProofs only [go_sem, Nat.reduceEqDiff, Nat.reduceAdd, Nat.reduceLT, Nat.reduceMul, Nat.reduceSub, Nat.reduceLeDiff, ↓reduceIte, reduceCtorEq, ↓String.reduceEq, String.reduceNe, Int.reduceToNat, Int.reduceLT, Int.reduceLE, Int.reduceGT, Int.reduceGE, Int.reduceEq, Int.reduceNe, Int.reduceBEq, Int.reduceBNe, Int.reduceAdd, Int.reduceSub, Int.reduceMul, Int.reduceNeg,  *]))
  refine SpecWP.method mth_Swap ?_
  refine swap_spec G HQ.out 0 (H.length - 1) h0 (by omega) _ (fun m2 q2 f2 => ?_)
  have Q2 := Hid.mk q2
  have F2 := Hid.mk f2
  clear q2 f2
  repeat' (first | exact tf0 ‹_› | exact tf1 ‹_› | exact False.elim ‹_› | (with_reducible refine Al.intro ?_; intro pb hpb; (try simp only [hupd_none'] at hpb); (repeat rcases hpb with ⟨⟨hpx, hpy⟩, hpb⟩)) | with_reducible refine need ?_ | ((with_reducible first | refine frk0 ?_ ?_ | refine frk1 ?_ ?_ | refine frk2 ?_ ?_ | refine frk3 ?_ ?_ | refine frk4 ?_ ?_ | refine frk5 ?_ ?_ | refine frk6 ?_ ?_ | refine frk7 ?_ ?_ | refine frk8 ?_ ?_ | refine frk9 ?_ ?_) <;> intro h <;> try (exfalso; omega)) | with_reducible refine quiet_and ?_ ?_ | with_reducible refine awp_drawnA mixed (by decide +kernel) ?_ | ((fail_if_success with_reducible refine stp ?_); simp -implicitDefEqProofs only [go_sem, Nat.reduceEqDiff, Nat.reduceAdd, Nat.reduceLT, Nat.reduceMul, Nat.reduceSub, Nat.reduceLeDiff, ↓reduceIte, reduceCtorEq, ↓String.reduceEq, String.reduceNe, Int.reduceToNat, Int.reduceLT, Int.reduceLE, Int.reduceGT, Int.reduceGE, Int.reduceEq, Int.reduceNe, Int.reduceBEq, Int.reduceBNe, Int.reduceAdd, Int.reduceSub, Int.reduceMul, Int.reduceNeg,  *]))
  refine down_spec G Q2.out hn (HR.out.perm (swp_perm H 0 (H.length - 1) h0 (by omega))) (by rw [swp_len]; omega) (H.length - 1) (by rw [swp_len]; omega) (DnI.start HH.out h0) _ (fun b H' m3 q3 p3 h3 e3 f3 => ?_)
  obtain ⟨k1, k2⟩ := popped HH.out h0 p3 h3 e3
  have F3 := Hid.mk (F2.out.trans (by rw [Q2.out.at_]; simp) f3)
  have Q3 := Hid.mk q3
  have K1 := Hid.mk k1
  have K2 := Hid.mk k2
  have hl3 : H'.length = H.length := by rw [p3.length_eq, swp_len]
  clear q3 p3 h3 e3 f3 k1 k2
  repeat' (first | exact tf0 ‹_› | exact tf1 ‹_› | exact False.elim ‹_› | (with_reducible refine Al.intro ?_; intro pb hpb; (try simp only [hupd_none'] at hpb); (repeat rcases hpb with ⟨⟨hpx, hpy⟩, hpb⟩)) | with_reducible refine need ?_ | ((with_reducible first | refine frk0 ?_ ?_ | refine frk1 ?_ ?_ | refine frk2 ?_ ?_ | refine frk3 ?_ ?_ | refine frk4 ?_ ?_ | refine frk5 ?_ ?_ | refine frk6 ?_ ?_ | refine frk7 ?_ ?_ | refine frk8 ?_ ?_ | refine frk9 ?_ ?_) <;> intro h <;> try (exfalso; omega)) | with_reducible refine quiet_and ?_ ?_ | with_reducible refine awp_drawnA mixed (by decide +kernel) ?_ | ((fail_if_success with_reducible refine stp ?_); simp -implicitDefEqProofs only [go_sem, Nat.reduceEqDiff, Nat.reduceAdd, Nat.reduceLT, Nat.reduceMul, Nat.reduceSub, Nat.reduceLeDiff, ↓reduceIte, reduceCtorEq, ↓String.reduceEq, String.reduceNe, Int.reduceToNat, Int.reduceLT, Int.reduceLE, Int.reduceGT, Int.reduceGE, Int.reduceEq, Int.reduceNe, Int.reduceBEq, Int.reduceBNe, Int.reduceAdd, Int.reduceSub, Int.reduceMul, Int.reduceNeg,  *]))
  refine SpecWP.method mth_Pop ?_
  refine pop_spec G Q3.out (by omega) (by omega) (H.getD 0 default) K1.out _ (fun v4 m4 q4 f4 => ?_)
  have F4 := Hid.mk (F3.out.trans (by rw [Q3.out.at_]; simp) f4)
  have Q4 := Hid.mk q4
  clear q4 f4
  repeat' (first | exact tf0 ‹_› | exact tf1 ‹_› | exact False.elim ‹_› | (with_reducible refine Al.intro ?_; intro pb hpb; (try simp only [hupd_none'] at hpb); (repeat rcases hpb with ⟨⟨hpx, hpy⟩, hpb⟩)) | with_reducible refine need ?_ | ((with_reducible first | refine frk0 ?_ ?_ | refine frk1 ?_ ?_ | refine frk2 ?_ ?_ | refine frk3 ?_ ?_ | refine frk4 ?_ ?_ | refine frk5 ?_ ?_ | refine frk6 ?_ ?_ | refine frk7 ?_ ?_ | refine frk8 ?_ ?_ | refine frk9 ?_ ?_) <;> intro h <;> try (exfalso; omega)) | with_reducible refine quiet_and ?_ ?_ | with_reducible refine awp_drawnA mixed (by decide +kernel) ?_ | ((fail_if_success with_reducible refine stp ?_); simp -implicitDefEqProofs only [go_sem, Nat.reduceEqDiff, Nat.reduceAdd, Nat.reduceLT, Nat.reduceMul, Nat.reduceSub, Nat.reduceLeDiff, ↓reduceIte, reduceCtorEq, ↓String.reduceEq, String.reduceNe, Int.reduceToNat, Int.reduceLT, Int.reduceLE, Int.reduceGT, Int.reduceGE, Int.reduceEq, Int.reduceNe, Int.reduceBEq, Int.reduceBNe, Int.reduceAdd, Int.reduceSub, Int.reduceMul, Int.reduceNeg,  *]))
  exact ⟨_, Sub.refl _, HK.out _ v4 _ _ Q4.out K2.out F4.out⟩
end Go.Proofs.Ytmifapnmlhchlaa
