/- The run. -/
import Derived.Test.YtmifapnmlhchlaaE13
set_option linter.all false
namespace Go.Proofs.Ytmifapnmlhchlaa
open Go Go.Proofs.Ytmifapnmlhchlaa.Ab
open Go.Proofs (Try.prog)
set_option maxRecDepth 100000
/-- When the next is begun. -/
def Begin (R : List Wt) (now t : Int) : Prop := (t = now ∧ ∃ u ∈ R, kT u ≤ now) ∨ (now < t ∧ (∃ u ∈ R, t = kT u) ∧ ∀ u ∈ R, t ≤ kT u)
theorem slm_slice {α : Type} {enc : α → List AVal} {sz : Nat} {C : List α} {b o l cap : Nat} {m : Heap} (h : SlM enc sz C (.slice b o l cap) m) : ∃ pre post N, o = pre.length ∧ l = C.length ∧ m b = some (.cells (pre ++ (C.flatMap enc ++ post)) N) ∧ pre.length + cap * sz ≤ N ∧ C.length ≤ cap := by
  rcases h with ⟨h, _⟩ | ⟨b', blk, hb, pre, post, N, cap', h, rfl, h1, h2⟩
  · cases h
  · injection h with e1 e2 e3 e4
    subst e1 e2 e3 e4
    exact ⟨pre, post, N, rfl, rfl, hb, h1, h2⟩
theorem rt_first {x : Wt} {nx : List Wt} (h : (x :: nx).Pairwise RT) : ∀ u ∈ nx, kT x ≤ kT u := fun u hu => ((List.pairwise_cons.1 h).1 u hu).key
theorem Mem.tail2 {n : Int} {m m' : Heap} {p b o ln cap : Nat} {v vo : AVal} {H nx : List Wt} {S : List (Wt × Int)} {x : Wt}
    (h : Mem n m m' p v (.slice b o ln cap) vo H (x :: nx) S) (hl : ln = nx.length + 1) : Mem n m m' p v (.slice b (if (cap : Int) = 1 then o else o + 5) (ln - 1) (cap - 1)) vo H nx S where
  hp := h.hp
  nx := by
    obtain ⟨pre, post, N, rfl, -, hb, hN, hc⟩ := slm_slice h.nx
    simp only [List.length_cons] at hc
    by_cases e : (cap : Int) = 1
    · have e0 : nx = [] := List.eq_nil_of_length_eq_zero (by omega)
      have e1 : cap = 1 := by omega
      subst e0 e1
      rw [if_pos e]
      exact .inr ⟨b, _, hb, pre, encC x ++ post, N, 0, by simp [hl], by simp, by omega, by simp⟩
    · rw [if_neg e]
      exact .inr ⟨b, _, hb, pre ++ encC x, post, N, cap - 1, by simp [hl], by simp, by simp only [List.length_append, encC_len]; omega, by omega⟩
  out := h.out
  sub := h.sub
  fp := h.fp
  fv := h.fv
  fn := fun c hc => h.fn c hc
  fo := h.fo
  np := fun e => h.np e
  op := h.op
  nv := fun c hc e => h.nv c hc e
  ov := h.ov
  no := fun c hc e => h.no c hc e
/-- All that holds ahead of a job's sending. -/
structure Way (n : Int) (J : List Jb) (m m' : Heap) (p : Nat) (v : AVal) (bn on ln capn : Nat) (vo : AVal) (H nx : List Wt) (S : List (Wt × Int)) (now : Int) : Prop where
  mem : Mem n m m' p v (.slice bn on ln capn) vo H nx S
  ln : ln = nx.length
  srt : nx.Pairwise RT
  rn : R1 nx
  rh : R1 H
  hh : Heaps n H
  len : S.length + (H.length + nx.length) = J.length
structure Rest (n : Int) (J : List Jb) (H nx : List Wt) (S : List (Wt × Int)) (now : Int) : Prop where
  came : ∀ u ∈ H, kT u ≤ now
  pos : 0 ≤ now
  low : now ≤ 1125899906842624 + (S.length : Int) * 1073741824
  goes : ∀ S', Sends n (H ++ nx) now S' → Sends n (idxJ J) 0 (S ++ S')
theorem idxJ_mem {J : List Jb} {w : Wt} (h : w ∈ idxJ J) : w.1 ∈ J := by
  obtain ⟨i, hi, rfl⟩ := List.getElem_of_mem h
  rw [idxJ_get]
  exact List.getElem_mem _
theorem cell_time (x : Wt) (nx : List Wt) (pre post : List AVal) : (pre ++ ((x :: nx).flatMap encC ++ post)).getD (pre.length + 1) .undef = .int .i64 (kT x) := by
  simp [List.getD_eq_getElem?_getD, kT]
set_option maxHeartbeats 4000000 in
theorem run_spec (G : Nat → AVal) (J : List Jb) (n : Int) (vj : AVal) (m : Heap) (hs : Rd J vj m) (K : AVal → Heap → Prop)
    (hbad : checkF J n ≠ 0 → K (.tuple [.nils, .int .i64 (checkF J n)]) m)
    (hK : checkF J n = 0 → ∀ (S : List (Wt × Int)) (vo : AVal) (m' : Heap), Sends n (idxJ J) 0 S → SlM encSt 3 S vo m' → Sub m m' → (∀ c, bOf vo = some c → m c = none) → K (.tuple [vo, .int .i64 0]) m') :
    CallWP Try.prog G 9 [vj, .int .i64 n] m K := by
  have HB := Hid.mk hbad
  have HK := Hid.mk hK
  have HS := Hid.mk hs
  clear hbad hK hs
  by_cases hc : checkF J n = 0
  · have HC := Hid.mk hc
    have hn : 1 ≤ n ∧ n ≤ 1073741824 := by
      unfold checkF at hc
      split at hc
      · cases hc
      · rename_i h; simpa using h
    have hJ : J.length ≤ 256 := by
      unfold checkF at hc
      rw [if_neg (by simpa using hn)] at hc
      split at hc
      · cases hc
      · omega
    have hR : ∀ j ∈ J, rightJ j = true := by
      unfold checkF at hc
      rw [if_neg (by simpa using hn), if_neg (by omega)] at hc
      split at hc
      · cases hc
      · rename_i h
        intro j hj
        simp only [List.any_eq_true, Bool.not_eq_true', not_exists, not_and, Bool.not_eq_false] at h
        exact h j hj
    have H1 := Hid.mk hn
    have HJL := Hid.mk hJ
    have H3 := Hid.mk hR
    clear hc hn hJ hR
    refine callWP_body Try.func9 rfl (N := 89) rfl (rs := [.tmp 4, .tmp 5]) rfl en_9 (of_decide_eq_true rfl) ?_
    repeat' (first | exact tf0 ‹_› | exact tf1 ‹_› | exact False.elim ‹_› | (with_reducible refine Al.intro ?_; intro pb hpb; (try simp only [hupd_none'] at hpb); (repeat rcases hpb with ⟨⟨hpx, hpy⟩, hpb⟩)) | with_reducible refine need ?_ | ((with_reducible first | refine frk0 ?_ ?_ | refine frk1 ?_ ?_ | refine frk2 ?_ ?_ | refine frk3 ?_ ?_ | refine frk4 ?_ ?_ | refine frk5 ?_ ?_ | refine frk6 ?_ ?_ | refine frk7 ?_ ?_ | refine frk8 ?_ ?_ | refine frk9 ?_ ?_) <;> intro h <;> try (exfalso; omega)) | with_reducible refine quiet_and ?_ ?_ | with_reducible refine awp_drawnA mixed (by decide +kernel) ?_ | ((fail_if_success with_reducible refine stp ?_); simp -implicitDefEqProofs only [go_sem, Nat.reduceEqDiff, Nat.reduceAdd, Nat.reduceLT, Nat.reduceMul, Nat.reduceSub, Nat.reduceLeDiff, ↓reduceIte, reduceCtorEq, ↓String.reduceEq, String.reduceNe, Int.reduceToNat, Int.reduceLT, Int.reduceLE, Int.reduceGT, Int.reduceGE, Int.reduceEq, Int.reduceNe, Int.reduceBEq, Int.reduceBNe, Int.reduceAdd, Int.reduceSub, Int.reduceMul, Int.reduceNeg,  *]))
    refine check_spec G J n vj m HS.out _ ?_
    rw [HC.out]
    repeat' (first | exact tf0 ‹_› | exact tf1 ‹_› | exact False.elim ‹_› | (with_reducible refine Al.intro ?_; intro pb hpb; (try simp only [hupd_none'] at hpb); (repeat rcases hpb with ⟨⟨hpx, hpy⟩, hpb⟩)) | with_reducible refine need ?_ | ((with_reducible first | refine frk0 ?_ ?_ | refine frk1 ?_ ?_ | refine frk2 ?_ ?_ | refine frk3 ?_ ?_ | refine frk4 ?_ ?_ | refine frk5 ?_ ?_ | refine frk6 ?_ ?_ | refine frk7 ?_ ?_ | refine frk8 ?_ ?_ | refine frk9 ?_ ?_) <;> intro h <;> try (exfalso; omega)) | with_reducible refine quiet_and ?_ ?_ | with_reducible refine awp_drawnA mixed (by decide +kernel) ?_ | ((fail_if_success with_reducible refine stp ?_); simp -implicitDefEqProofs only [go_sem, Nat.reduceEqDiff, Nat.reduceAdd, Nat.reduceLT, Nat.reduceMul, Nat.reduceSub, Nat.reduceLeDiff, ↓reduceIte, reduceCtorEq, ↓String.reduceEq, String.reduceNe, Int.reduceToNat, Int.reduceLT, Int.reduceLE, Int.reduceGT, Int.reduceGE, Int.reduceEq, Int.reduceNe, Int.reduceBEq, Int.reduceBNe, Int.reduceAdd, Int.reduceSub, Int.reduceMul, Int.reduceNeg,  *]))
    refine coming_spec G J (by have := HJL.out; omega) vj m HS.out _ ?_
    intro nx0 vn m1 hsrt hperm hnx hsub hfr
    have HN := Hid.mk (And.intro hsrt (And.intro hperm (And.intro hnx (And.intro hsub hfr))))
    clear hsrt hperm hnx hsub hfr
    have hvn : vn = .nils ∧ nx0 = [] ∨ ∃ b o cap, vn = .slice b o nx0.length cap := HN.out.2.2.1.slv
    rcases hvn with ⟨rfl, hnx⟩ | ⟨b, o, cap, rfl⟩
    · have hJ0 : J = [] := by
        have := HN.out.2.1
        rw [hnx] at this
        have e := this.length_eq
        rw [idxJ_len] at e
        exact List.eq_nil_of_length_eq_zero e.symm
      repeat' (first | exact tf0 ‹_› | exact tf1 ‹_› | exact False.elim ‹_› | (with_reducible refine Al.intro ?_; intro pb hpb; (try simp only [hupd_none'] at hpb); (repeat rcases hpb with ⟨⟨hpx, hpy⟩, hpb⟩)) | with_reducible refine need ?_ | ((with_reducible first | refine frk0 ?_ ?_ | refine frk1 ?_ ?_ | refine frk2 ?_ ?_ | refine frk3 ?_ ?_ | refine frk4 ?_ ?_ | refine frk5 ?_ ?_ | refine frk6 ?_ ?_ | refine frk7 ?_ ?_ | refine frk8 ?_ ?_ | refine frk9 ?_ ?_) <;> intro h <;> try (exfalso; omega)) | with_reducible refine quiet_and ?_ ?_ | with_reducible refine awp_drawnA mixed (by decide +kernel) ?_ | ((fail_if_success with_reducible refine stp ?_); simp -implicitDefEqProofs only [go_sem, Nat.reduceEqDiff, Nat.reduceAdd, Nat.reduceLT, Nat.reduceMul, Nat.reduceSub, Nat.reduceLeDiff, ↓reduceIte, reduceCtorEq, ↓String.reduceEq, String.reduceNe, Int.reduceToNat, Int.reduceLT, Int.reduceLE, Int.reduceGT, Int.reduceGE, Int.reduceEq, Int.reduceNe, Int.reduceBEq, Int.reduceBNe, Int.reduceAdd, Int.reduceSub, Int.reduceMul, Int.reduceNeg,  *]))
      rename Nat => p
      rename m1 p = none => hp
      refine awp_loopP 0 (fun ts m' => ts 9 = .nils ∧ m' = hupd m1 p (.cells [.int .i64 n, .nils] 2)) (fun k ts m' => ts 7 = .nils ∧ ts 8 = .ptr p 0 ∧ ts 9 = .nils ∧ m' = hupd m1 p (.cells [.int .i64 n, .nils] 2)) 0 ⟨ttt, ttt, ttt, rfl⟩ ?_ ?_
      · rintro k ts m' ⟨t7, t8, t9, rfl⟩
        repeat' (first | exact tf0 ‹_› | exact tf1 ‹_› | exact False.elim ‹_› | (with_reducible refine Al.intro ?_; intro pb hpb; (try simp only [hupd_none'] at hpb); (repeat rcases hpb with ⟨⟨hpx, hpy⟩, hpb⟩)) | with_reducible refine need ?_ | ((with_reducible first | refine frk0 ?_ ?_ | refine frk1 ?_ ?_ | refine frk2 ?_ ?_ | refine frk3 ?_ ?_ | refine frk4 ?_ ?_ | refine frk5 ?_ ?_ | refine frk6 ?_ ?_ | refine frk7 ?_ ?_ | refine frk8 ?_ ?_ | refine frk9 ?_ ?_) <;> intro h <;> try (exfalso; omega)) | with_reducible refine quiet_and ?_ ?_ | with_reducible refine awp_drawnA mixed (by decide +kernel) ?_ | ((fail_if_success with_reducible refine stp ?_); simp -implicitDefEqProofs only [go_sem, Nat.reduceEqDiff, Nat.reduceAdd, Nat.reduceLT, Nat.reduceMul, Nat.reduceSub, Nat.reduceLeDiff, ↓reduceIte, reduceCtorEq, ↓String.reduceEq, String.reduceNe, Int.reduceToNat, Int.reduceLT, Int.reduceLE, Int.reduceGT, Int.reduceGE, Int.reduceEq, Int.reduceNe, Int.reduceBEq, Int.reduceBNe, Int.reduceAdd, Int.reduceSub, Int.reduceMul, Int.reduceNeg,  *]))
        refine CallWP.to (len_spec G (p := p) (v := .nils) (n := n) (H := []) ⟨by rw [hupd_at, if_pos rfl]; rfl, .inl ⟨rfl, rfl⟩, by simp [bOf]⟩) ?_
        repeat' (first | exact tf0 ‹_› | exact tf1 ‹_› | exact False.elim ‹_› | (with_reducible refine Al.intro ?_; intro pb hpb; (try simp only [hupd_none'] at hpb); (repeat rcases hpb with ⟨⟨hpx, hpy⟩, hpb⟩)) | with_reducible refine need ?_ | ((with_reducible first | refine frk0 ?_ ?_ | refine frk1 ?_ ?_ | refine frk2 ?_ ?_ | refine frk3 ?_ ?_ | refine frk4 ?_ ?_ | refine frk5 ?_ ?_ | refine frk6 ?_ ?_ | refine frk7 ?_ ?_ | refine frk8 ?_ ?_ | refine frk9 ?_ ?_) <;> intro h <;> try (exfalso; omega)) | with_reducible refine quiet_and ?_ ?_ | with_reducible refine awp_drawnA mixed (by decide +kernel) ?_ | ((fail_if_success with_reducible refine stp ?_); simp -implicitDefEqProofs only [go_sem, Nat.reduceEqDiff, Nat.reduceAdd, Nat.reduceLT, Nat.reduceMul, Nat.reduceSub, Nat.reduceLeDiff, ↓reduceIte, reduceCtorEq, ↓String.reduceEq, String.reduceNe, Int.reduceToNat, Int.reduceLT, Int.reduceLE, Int.reduceGT, Int.reduceGE, Int.reduceEq, Int.reduceNe, Int.reduceBEq, Int.reduceBNe, Int.reduceAdd, Int.reduceSub, Int.reduceMul, Int.reduceNeg,  *]))
        exact Again.intro ⟨(by first | (simp only [upd, put, Nat.reduceEqDiff, ↓reduceIte, t9]; done) | (simp [upd, put, t9]; done) | rfl | (simp [upd, put, t9]; rfl)), rfl⟩
      · rintro ts m' ⟨t9, rfl⟩
        repeat' (first | exact tf0 ‹_› | exact tf1 ‹_› | exact False.elim ‹_› | (with_reducible refine Al.intro ?_; intro pb hpb; (try simp only [hupd_none'] at hpb); (repeat rcases hpb with ⟨⟨hpx, hpy⟩, hpb⟩)) | with_reducible refine need ?_ | ((with_reducible first | refine frk0 ?_ ?_ | refine frk1 ?_ ?_ | refine frk2 ?_ ?_ | refine frk3 ?_ ?_ | refine frk4 ?_ ?_ | refine frk5 ?_ ?_ | refine frk6 ?_ ?_ | refine frk7 ?_ ?_ | refine frk8 ?_ ?_ | refine frk9 ?_ ?_) <;> intro h <;> try (exfalso; omega)) | with_reducible refine quiet_and ?_ ?_ | with_reducible refine awp_drawnA mixed (by decide +kernel) ?_ | ((fail_if_success with_reducible refine stp ?_); simp -implicitDefEqProofs only [go_sem, Nat.reduceEqDiff, Nat.reduceAdd, Nat.reduceLT, Nat.reduceMul, Nat.reduceSub, Nat.reduceLeDiff, ↓reduceIte, reduceCtorEq, ↓String.reduceEq, String.reduceNe, Int.reduceToNat, Int.reduceLT, Int.reduceLE, Int.reduceGT, Int.reduceGE, Int.reduceEq, Int.reduceNe, Int.reduceBEq, Int.reduceBNe, Int.reduceAdd, Int.reduceSub, Int.reduceMul, Int.reduceNeg,  *]))
        refine ⟨_, Sub.refl _, ?_⟩
        exact HK.out HC.out [] .nils _ (by rw [hJ0]; exact .nil 0) (.inl ⟨rfl, rfl⟩) (fun x y hx => by
          have h1 := HN.out.2.2.2.1 x y hx
          rw [hupd_ne (fun e => by rw [e, hp] at h1; cases h1)]; exact h1) (by simp [bOf])
    · repeat' (first | exact tf0 ‹_› | exact tf1 ‹_› | exact False.elim ‹_› | (with_reducible refine Al.intro ?_; intro pb hpb; (try simp only [hupd_none'] at hpb); (repeat rcases hpb with ⟨⟨hpx, hpy⟩, hpb⟩)) | with_reducible refine need ?_ | ((with_reducible first | refine frk0 ?_ ?_ | refine frk1 ?_ ?_ | refine frk2 ?_ ?_ | refine frk3 ?_ ?_ | refine frk4 ?_ ?_ | refine frk5 ?_ ?_ | refine frk6 ?_ ?_ | refine frk7 ?_ ?_ | refine frk8 ?_ ?_ | refine frk9 ?_ ?_) <;> intro h <;> try (exfalso; omega)) | with_reducible refine quiet_and ?_ ?_ | with_reducible refine awp_drawnA mixed (by decide +kernel) ?_ | ((fail_if_success with_reducible refine stp ?_); simp -implicitDefEqProofs only [go_sem, Nat.reduceEqDiff, Nat.reduceAdd, Nat.reduceLT, Nat.reduceMul, Nat.reduceSub, Nat.reduceLeDiff, ↓reduceIte, reduceCtorEq, ↓String.reduceEq, String.reduceNe, Int.reduceToNat, Int.reduceLT, Int.reduceLE, Int.reduceGT, Int.reduceGE, Int.reduceEq, Int.reduceNe, Int.reduceBEq, Int.reduceBNe, Int.reduceAdd, Int.reduceSub, Int.reduceMul, Int.reduceNeg,  *]))
      rename Nat => p
      rename m1 p = none => hp
      refine awp_loopP 0 (fun ts m' => ∃ (S : List (Wt × Int)) (vo : AVal), Hid (Sends n (idxJ J) 0 S ∧ SlM encSt 3 S vo m' ∧ Sub m m' ∧ (∀ c, bOf vo = some c → m c = none)) ∧ ts 9 = vo)
        (fun k ts m' => ∃ (v : AVal) (bn on ln capn : Nat) (vo : AVal) (H nx : List Wt) (S : List (Wt × Int)) (now : Int), Hid (k = H.length + ln ∧ Way n J m m' p v bn on ln capn vo H nx S now ∧ Rest n J H nx S now) ∧ ts 7 = .slice bn on ln capn ∧ ts 8 = .ptr p 0 ∧ ts 9 = vo ∧ ts 10 = .int .i64 now) J.length
        ⟨.nils, b, o, nx0.length, cap, .nils, [], nx0, [], 0, .mk (by
          obtain ⟨q1, q2, q3, q4, q5⟩ := HN.out
          have sb : Sub m1 (hupd m1 p (.cells [.int .i64 n, .nils] 2)) := Sub.fresh (Sub.refl _) hp
          have hbp : b ≠ p := fun e => slm_some q3 (c := b) rfl (by rw [e]; exact hp)
          have ql : nx0.length = J.length := by rw [q2.length_eq, idxJ_len]
          have hr : R1 nx0 := by
            intro w hw
            exact H3.out _ (idxJ_mem (q2.mem_iff.1 hw))
          refine ⟨by rw [ql]; simp, ⟨⟨⟨by rw [hupd_at, if_pos rfl]; rfl, .inl ⟨rfl, rfl⟩, by simp [bOf]⟩, q3.into sb, .inl ⟨rfl, rfl⟩, subTrans q4 sb, q4.gone hp, by simp [bOf], q5, by simp [bOf], fun e => hbp (by simpa [bOf] using e), by simp [bOf], by simp [bOf], by simp [bOf], by simp [bOf]⟩, rfl, q1, hr, by intro w hw; simp at hw, fun k h1 h2 => absurd h2 (by simp), by rw [ql]; simp⟩, ⟨by simp, Int.le_refl _, by simp, fun S' h => by simpa using h.to q2⟩⟩), ttt, ttt, ttt, ttt⟩ ?_ ?_
      · rintro k ts m2 ⟨v, bn, on, ln, capn, vo, H, nx, S, now, W, t7, t8, t9, t10⟩
        clear hp
        by_cases hA : ln = 0 ∧ H = []
        · obtain ⟨rfl, rfl⟩ := hA
          repeat' (first | exact tf0 ‹_› | exact tf1 ‹_› | exact False.elim ‹_› | (with_reducible refine Al.intro ?_; intro pb hpb; (try simp only [hupd_none'] at hpb); (repeat rcases hpb with ⟨⟨hpx, hpy⟩, hpb⟩)) | with_reducible refine need ?_ | ((with_reducible first | refine frk0 ?_ ?_ | refine frk1 ?_ ?_ | refine frk2 ?_ ?_ | refine frk3 ?_ ?_ | refine frk4 ?_ ?_ | refine frk5 ?_ ?_ | refine frk6 ?_ ?_ | refine frk7 ?_ ?_ | refine frk8 ?_ ?_ | refine frk9 ?_ ?_) <;> intro h <;> try (exfalso; omega)) | with_reducible refine quiet_and ?_ ?_ | with_reducible refine awp_drawnA mixed (by decide +kernel) ?_ | ((fail_if_success with_reducible refine stp ?_); simp -implicitDefEqProofs only [go_sem, Nat.reduceEqDiff, Nat.reduceAdd, Nat.reduceLT, Nat.reduceMul, Nat.reduceSub, Nat.reduceLeDiff, ↓reduceIte, reduceCtorEq, ↓String.reduceEq, String.reduceNe, Int.reduceToNat, Int.reduceLT, Int.reduceLE, Int.reduceGT, Int.reduceGE, Int.reduceEq, Int.reduceNe, Int.reduceBEq, Int.reduceBNe, Int.reduceAdd, Int.reduceSub, Int.reduceMul, Int.reduceNeg,  *]))
          refine CallWP.to (len_spec G W.out.2.1.mem.hp) ?_
          repeat' (first | exact tf0 ‹_› | exact tf1 ‹_› | exact False.elim ‹_› | (with_reducible refine Al.intro ?_; intro pb hpb; (try simp only [hupd_none'] at hpb); (repeat rcases hpb with ⟨⟨hpx, hpy⟩, hpb⟩)) | with_reducible refine need ?_ | ((with_reducible first | refine frk0 ?_ ?_ | refine frk1 ?_ ?_ | refine frk2 ?_ ?_ | refine frk3 ?_ ?_ | refine frk4 ?_ ?_ | refine frk5 ?_ ?_ | refine frk6 ?_ ?_ | refine frk7 ?_ ?_ | refine frk8 ?_ ?_ | refine frk9 ?_ ?_) <;> intro h <;> try (exfalso; omega)) | with_reducible refine quiet_and ?_ ?_ | with_reducible refine awp_drawnA mixed (by decide +kernel) ?_ | ((fail_if_success with_reducible refine stp ?_); simp -implicitDefEqProofs only [go_sem, Nat.reduceEqDiff, Nat.reduceAdd, Nat.reduceLT, Nat.reduceMul, Nat.reduceSub, Nat.reduceLeDiff, ↓reduceIte, reduceCtorEq, ↓String.reduceEq, String.reduceNe, Int.reduceToNat, Int.reduceLT, Int.reduceLE, Int.reduceGT, Int.reduceGE, Int.reduceEq, Int.reduceNe, Int.reduceBEq, Int.reduceBNe, Int.reduceAdd, Int.reduceSub, Int.reduceMul, Int.reduceNeg,  *]))
          exact Again.intro ⟨S, vo, .mk (by
            obtain ⟨w1, w2, w3⟩ := W.out
            have hnx : nx = [] := List.eq_nil_of_length_eq_zero w2.ln.symm
            subst hnx
            have := w3.goes [] (.nil _)
            rw [List.append_nil] at this
            exact ⟨this, w2.mem.out, w2.mem.sub, w2.mem.fo⟩), (by first | (simp only [upd, put, Nat.reduceEqDiff, ↓reduceIte, t9]; done) | (simp [upd, put, t9]; done) | rfl | (simp [upd, put, t9]; rfl))⟩
        · have hcs : ∃ t : Int, Hid (Begin (H ++ nx) now t ∧ (∀ u ∈ H, kT u ≤ t) ∧ t ≤ 1125899906842624 + (S.length : Int) * 1073741824 ∧ now ≤ t) ∧ ((∃ hl0 : ¬ (0 : Int) < (ln : Int), ∃ hh0 : (0 : Int) < (H.length : Int), ∃ hh1 : ¬ (H.length : Int) = 0, ts 10 = .int .i64 t) ∨ (∃ hl0 : (0 : Int) < (ln : Int), ∃ hh1 : ¬ (H.length : Int) = 0, ts 10 = .int .i64 t) ∨
              (∃ hl0 : (0 : Int) < (ln : Int), ∃ hh1 : (H.length : Int) = 0, ∃ (x : Wt) (nx' : List Wt) (pre post : List AVal) (N : Nat), on = pre.length ∧ m2 bn = some (.cells (pre ++ (nx.flatMap encC ++ post)) N) ∧ (pre ++ (nx.flatMap encC ++ post)).getD (pre.length + 1) .undef = .int .i64 (kT x) ∧ pre.length + 5 ≤ (pre ++ (nx.flatMap encC ++ post)).length ∧ imx now (kT x) = t)) := by
            obtain ⟨w1, w2, w3⟩ := W.out
            by_cases hH : H = []
            · have hl0 : 0 < ln := by
                rcases Nat.eq_zero_or_pos ln with e | e
                · exact absurd ⟨e, hH⟩ hA
                · exact e
              obtain ⟨x, nx', hnx⟩ : ∃ x nx', nx = x :: nx' := by
                cases nx with
                | nil => exact absurd w2.ln (by simp; omega)
                | cons x nx' => exact ⟨x, nx', rfl⟩
              obtain ⟨pre, post, N, hon, -, hrow, -, -⟩ := slm_slice w2.mem.nx
              refine ⟨imx now (kT x), .mk ⟨?_, by rw [hH]; simp, ?_, ?_⟩, .inr (.inr ⟨by omega, by rw [hH]; rfl, x, nx', pre, post, N, hon, hrow, ?_, ?_, rfl⟩)⟩
              · have hm := rt_first (hnx ▸ w2.srt)
                unfold imx
                rw [hH, hnx]
                split
                · refine .inr ⟨by omega, ⟨x, by simp, rfl⟩, ?_⟩
                  intro u hu
                  rcases List.mem_cons.1 (by simpa using hu) with rfl | hu
                  · exact Int.le_refl _
                  · exact hm u hu
                · exact .inl ⟨rfl, x, by simp, by omega⟩
              · have hr := (rightJ_iff _).1 (w2.rn x (by rw [hnx]; simp))
                have := w3.low
                unfold imx
                split
                · unfold kT; omega
                · exact this
              · unfold imx; split <;> omega
              · rw [hnx]; exact cell_time x nx' pre post
              · rw [hnx]; simp
            · obtain ⟨u, hu⟩ : ∃ u, u ∈ H := List.exists_mem_of_ne_nil H hH
              have hpos : 0 < H.length := List.length_pos_of_mem hu
              refine ⟨now, .mk ⟨.inl ⟨rfl, u, List.mem_append_left _ hu, w3.came u hu⟩, w3.came, w3.low, Int.le_refl _⟩, ?_⟩
              rcases Nat.eq_zero_or_pos ln with e | e
              · exact .inl ⟨by omega, by omega, by omega, t10⟩
              · exact .inr (.inl ⟨by omega, by omega, t10⟩)
          obtain ⟨t, HT, hcs⟩ := hcs
          clear hA
          rcases hcs with ⟨hl0, hh0, hh1, t10⟩ | ⟨hl0, hh1, t10⟩ | ⟨hl0, hh1, x, nx', pre, post, N, rfl, hrow, g1, l1, himx⟩
          all_goals (
            repeat' (first | exact tf0 ‹_› | exact tf1 ‹_› | exact False.elim ‹_› | (with_reducible refine Al.intro ?_; intro pb hpb; (try simp only [hupd_none'] at hpb); (repeat rcases hpb with ⟨⟨hpx, hpy⟩, hpb⟩)) | with_reducible refine need ?_ | ((with_reducible first | refine frk0 ?_ ?_ | refine frk1 ?_ ?_ | refine frk2 ?_ ?_ | refine frk3 ?_ ?_ | refine frk4 ?_ ?_ | refine frk5 ?_ ?_ | refine frk6 ?_ ?_ | refine frk7 ?_ ?_ | refine frk8 ?_ ?_ | refine frk9 ?_ ?_) <;> intro h <;> try (exfalso; omega)) | with_reducible refine quiet_and ?_ ?_ | with_reducible refine awp_drawnA mixed (by decide +kernel) ?_ | ((fail_if_success with_reducible refine stp ?_); simp -implicitDefEqProofs only [go_sem, Nat.reduceEqDiff, Nat.reduceAdd, Nat.reduceLT, Nat.reduceMul, Nat.reduceSub, Nat.reduceLeDiff, ↓reduceIte, reduceCtorEq, ↓String.reduceEq, String.reduceNe, Int.reduceToNat, Int.reduceLT, Int.reduceLE, Int.reduceGT, Int.reduceGE, Int.reduceEq, Int.reduceNe, Int.reduceBEq, Int.reduceBNe, Int.reduceAdd, Int.reduceSub, Int.reduceMul, Int.reduceNeg,  *]))
            (try (refine CallWP.to (len_spec G W.out.2.1.mem.hp) ?_; repeat' (first | exact tf0 ‹_› | exact tf1 ‹_› | exact False.elim ‹_› | (with_reducible refine Al.intro ?_; intro pb hpb; (try simp only [hupd_none'] at hpb); (repeat rcases hpb with ⟨⟨hpx, hpy⟩, hpb⟩)) | with_reducible refine need ?_ | ((with_reducible first | refine frk0 ?_ ?_ | refine frk1 ?_ ?_ | refine frk2 ?_ ?_ | refine frk3 ?_ ?_ | refine frk4 ?_ ?_ | refine frk5 ?_ ?_ | refine frk6 ?_ ?_ | refine frk7 ?_ ?_ | refine frk8 ?_ ?_ | refine frk9 ?_ ?_) <;> intro h <;> try (exfalso; omega)) | with_reducible refine quiet_and ?_ ?_ | with_reducible refine awp_drawnA mixed (by decide +kernel) ?_ | ((fail_if_success with_reducible refine stp ?_); simp -implicitDefEqProofs only [go_sem, Nat.reduceEqDiff, Nat.reduceAdd, Nat.reduceLT, Nat.reduceMul, Nat.reduceSub, Nat.reduceLeDiff, ↓reduceIte, reduceCtorEq, ↓String.reduceEq, String.reduceNe, Int.reduceToNat, Int.reduceLT, Int.reduceLE, Int.reduceGT, Int.reduceGE, Int.reduceEq, Int.reduceNe, Int.reduceBEq, Int.reduceBNe, Int.reduceAdd, Int.reduceSub, Int.reduceMul, Int.reduceNeg,  *]))))
            (try (refine CallWP.to (len_spec G W.out.2.1.mem.hp) ?_; repeat' (first | exact tf0 ‹_› | exact tf1 ‹_› | exact False.elim ‹_› | (with_reducible refine Al.intro ?_; intro pb hpb; (try simp only [hupd_none'] at hpb); (repeat rcases hpb with ⟨⟨hpx, hpy⟩, hpb⟩)) | with_reducible refine need ?_ | ((with_reducible first | refine frk0 ?_ ?_ | refine frk1 ?_ ?_ | refine frk2 ?_ ?_ | refine frk3 ?_ ?_ | refine frk4 ?_ ?_ | refine frk5 ?_ ?_ | refine frk6 ?_ ?_ | refine frk7 ?_ ?_ | refine frk8 ?_ ?_ | refine frk9 ?_ ?_) <;> intro h <;> try (exfalso; omega)) | with_reducible refine quiet_and ?_ ?_ | with_reducible refine awp_drawnA mixed (by decide +kernel) ?_ | ((fail_if_success with_reducible refine stp ?_); simp -implicitDefEqProofs only [go_sem, Nat.reduceEqDiff, Nat.reduceAdd, Nat.reduceLT, Nat.reduceMul, Nat.reduceSub, Nat.reduceLeDiff, ↓reduceIte, reduceCtorEq, ↓String.reduceEq, String.reduceNe, Int.reduceToNat, Int.reduceLT, Int.reduceLE, Int.reduceGT, Int.reduceGE, Int.reduceEq, Int.reduceNe, Int.reduceBEq, Int.reduceBNe, Int.reduceAdd, Int.reduceSub, Int.reduceMul, Int.reduceNeg,  *]))))
            refine awp_loopP 2 (fun ts m3 => ∃ (v2 : AVal) (bn2 on2 ln2 cap2 : Nat) (H2 nx2 : List Wt), Hid (Way n J m m3 p v2 bn2 on2 ln2 cap2 vo H2 nx2 S t ∧ (∀ u ∈ H2, kT u ≤ t) ∧ (H2 ++ nx2).Perm (H ++ nx) ∧ ∀ u ∈ nx2, t < kT u) ∧ ts 7 = .slice bn2 on2 ln2 cap2 ∧ ts 8 = .ptr p 0 ∧ ts 9 = vo ∧ ts 10 = .int .i64 t)
              (fun k2 ts m3 => ∃ (v2 : AVal) (bn2 on2 ln2 cap2 : Nat) (H2 nx2 : List Wt), Hid (k2 = ln2 ∧ Way n J m m3 p v2 bn2 on2 ln2 cap2 vo H2 nx2 S t ∧ (∀ u ∈ H2, kT u ≤ t) ∧ (H2 ++ nx2).Perm (H ++ nx)) ∧ ts 7 = .slice bn2 on2 ln2 cap2 ∧ ts 8 = .ptr p 0 ∧ ts 9 = vo ∧ ts 10 = .int .i64 t) ln
              ⟨v, bn, _, ln, capn, H, nx, .mk ⟨rfl, ⟨W.out.2.1.mem, W.out.2.1.ln, W.out.2.1.srt, W.out.2.1.rn, W.out.2.1.rh, W.out.2.1.hh, W.out.2.1.len⟩, HT.out.2.1, .refl _⟩, (by first | (simp only [upd, put, Nat.reduceEqDiff, ↓reduceIte, t7]; done) | (simp [upd, put, t7]; done) | rfl | (simp [upd, put, t7]; rfl)), (by first | (simp only [upd, put, Nat.reduceEqDiff, ↓reduceIte, t8]; done) | (simp [upd, put, t8]; done) | rfl | (simp [upd, put, t8]; rfl)), (by first | (simp only [upd, put, Nat.reduceEqDiff, ↓reduceIte, t9]; done) | (simp [upd, put, t9]; done) | rfl | (simp [upd, put, t9]; rfl)), (by first | (simp only [upd, put, Nat.reduceEqDiff, ↓reduceIte, t10]; done) | (simp [upd, put, t10]; done) | rfl | (simp [upd, put, t10]; rfl))⟩ ?_ ?_
            · clear t7 t8 t9 t10
              rintro k2 ts m3 ⟨v2, bn2, on2, ln2, cap2, H2, nx2, W2, t7, t8, t9, t10⟩
              by_cases hl2 : 0 < ln2
              · have lt2 : (0 : Int) < (ln2 : Int) := by omega
                obtain ⟨y, nx3, hnx2⟩ : ∃ y nx3, nx2 = y :: nx3 := by
                  cases nx2 with
                  | nil => exact absurd W2.out.2.1.ln (by simp; omega)
                  | cons y nx3 => exact ⟨y, nx3, rfl⟩
                subst hnx2
                obtain ⟨pre2, post2, N2, hon2, hln2, hrow2, hN2, hcap2⟩ := slm_slice W2.out.2.1.mem.nx
                have c1 := cell_time y nx3 pre2 post2
                have c2 := w_at (y :: nx3) pre2 post2 0 (by simp) y rfl
                have c3 := w_len (y :: nx3) pre2 post2 0 (by simp)
                rw [Nat.zero_mul, Nat.add_zero] at c2 c3
                subst hon2
                obtain ⟨C2, hC2⟩ : ∃ C2, C2 = y :: nx3 := ⟨_, rfl⟩
                rw [← hC2] at hrow2 c1 c2 c3
                have HC2 := Hid.mk hC2
                have HN2 := Hid.mk (And.intro hN2 (And.intro hcap2 hln2))
                have n1 : (1 : Int) ≤ (ln2 : Int) := by omega
                have n2 : (ln2 : Int) ≤ (cap2 : Int) := by rw [hln2]; omega
                clear hC2 hN2 hcap2 hln2
                by_cases hy : kT y ≤ t
                · repeat' (first | exact tf0 ‹_› | exact tf1 ‹_› | exact False.elim ‹_› | (with_reducible refine Al.intro ?_; intro pb hpb; (try simp only [hupd_none'] at hpb); (repeat rcases hpb with ⟨⟨hpx, hpy⟩, hpb⟩)) | with_reducible refine need ?_ | ((with_reducible first | refine frk0 ?_ ?_ | refine frk1 ?_ ?_ | refine frk2 ?_ ?_ | refine frk3 ?_ ?_ | refine frk4 ?_ ?_ | refine frk5 ?_ ?_ | refine frk6 ?_ ?_ | refine frk7 ?_ ?_ | refine frk8 ?_ ?_ | refine frk9 ?_ ?_) <;> intro h <;> try (exfalso; omega)) | with_reducible refine quiet_and ?_ ?_ | with_reducible refine awp_drawnA mixed (by decide +kernel) ?_ | ((fail_if_success with_reducible refine stp ?_); simp -implicitDefEqProofs only [go_sem, Nat.reduceEqDiff, Nat.reduceAdd, Nat.reduceLT, Nat.reduceMul, Nat.reduceSub, Nat.reduceLeDiff, ↓reduceIte, reduceCtorEq, ↓String.reduceEq, String.reduceNe, Int.reduceToNat, Int.reduceLT, Int.reduceLE, Int.reduceGT, Int.reduceGE, Int.reduceEq, Int.reduceNe, Int.reduceBEq, Int.reduceBNe, Int.reduceAdd, Int.reduceSub, Int.reduceMul, Int.reduceNeg,  *]))
                  refine hpush_spec G W2.out.2.1.mem.hp H1.out.1 W2.out.2.1.rh (by have := W2.out.2.1.len; have := HJL.out; omega) W2.out.2.1.hh y (W2.out.2.1.rn y (by simp)) _ ?_
                  intro v3 H3 m4 hp3 perm3 heaps3 fr3
                  have HP3 := Hid.mk (And.intro hp3 (And.intro perm3 (And.intro heaps3 fr3)))
                  clear hp3 perm3 heaps3 fr3
                  repeat' (first | exact tf0 ‹_› | exact tf1 ‹_› | exact False.elim ‹_› | (with_reducible refine Al.intro ?_; intro pb hpb; (try simp only [hupd_none'] at hpb); (repeat rcases hpb with ⟨⟨hpx, hpy⟩, hpb⟩)) | with_reducible refine need ?_ | ((with_reducible first | refine frk0 ?_ ?_ | refine frk1 ?_ ?_ | refine frk2 ?_ ?_ | refine frk3 ?_ ?_ | refine frk4 ?_ ?_ | refine frk5 ?_ ?_ | refine frk6 ?_ ?_ | refine frk7 ?_ ?_ | refine frk8 ?_ ?_ | refine frk9 ?_ ?_) <;> intro h <;> try (exfalso; omega)) | with_reducible refine quiet_and ?_ ?_ | with_reducible refine awp_drawnA mixed (by decide +kernel) ?_ | ((fail_if_success with_reducible refine stp ?_); simp -implicitDefEqProofs only [go_sem, Nat.reduceEqDiff, Nat.reduceAdd, Nat.reduceLT, Nat.reduceMul, Nat.reduceSub, Nat.reduceLeDiff, ↓reduceIte, reduceCtorEq, ↓String.reduceEq, String.reduceNe, Int.reduceToNat, Int.reduceLT, Int.reduceLE, Int.reduceGT, Int.reduceGE, Int.reduceEq, Int.reduceNe, Int.reduceBEq, Int.reduceBNe, Int.reduceAdd, Int.reduceSub, Int.reduceMul, Int.reduceNeg,  *]))
                  exact Again.intro ⟨ln2 - 1, by have := W2.out.1; omega, _, Sub.refl _, v3, bn2, _, ln2 - 1, cap2 - 1, H3, nx3, .mk (by
                    obtain ⟨q1, q2, q3, q4⟩ := W2.out
                    obtain ⟨r1, r2, r3, r4⟩ := HP3.out
                    have sr := List.pairwise_cons.1 q2.srt
                    have e3 : H3.length = H2.length + 1 := by rw [r2.length_eq]; simp
                    have q5 := q2.ln
                    have q6 := q2.len
                    simp only [List.length_cons] at q5 q6
                    refine ⟨rfl, ⟨(q2.mem.heap r4 r1).tail2 q5, by omega, sr.2, fun u hu => q2.rn u (List.mem_cons_of_mem _ hu), ?_, r3, by omega⟩, ?_, ?_⟩
                    · intro u hu
                      rcases List.mem_append.1 (r2.mem_iff.1 hu) with hu | hu
                      · exact q2.rh u hu
                      · exact q2.rn u (by rw [List.mem_singleton.1 hu]; simp)
                    · intro u hu
                      rcases List.mem_append.1 (r2.mem_iff.1 hu) with hu | hu
                      · exact q3 u hu
                      · rw [List.mem_singleton.1 hu]; exact hy
                    · refine (r2.append_right nx3).trans ?_
                      rw [List.append_assoc]
                      exact q4), ttt, (by first | (simp only [upd, put, Nat.reduceEqDiff, ↓reduceIte, t8]; done) | (simp [upd, put, t8]; done) | rfl | (simp [upd, put, t8]; rfl)), (by first | (simp only [upd, put, Nat.reduceEqDiff, ↓reduceIte, t9]; done) | (simp [upd, put, t9]; done) | rfl | (simp [upd, put, t9]; rfl)), (by first | (simp only [upd, put, Nat.reduceEqDiff, ↓reduceIte, t10]; done) | (simp [upd, put, t10]; done) | rfl | (simp [upd, put, t10]; rfl))⟩
                · repeat' (first | exact tf0 ‹_› | exact tf1 ‹_› | exact False.elim ‹_› | (with_reducible refine Al.intro ?_; intro pb hpb; (try simp only [hupd_none'] at hpb); (repeat rcases hpb with ⟨⟨hpx, hpy⟩, hpb⟩)) | with_reducible refine need ?_ | ((with_reducible first | refine frk0 ?_ ?_ | refine frk1 ?_ ?_ | refine frk2 ?_ ?_ | refine frk3 ?_ ?_ | refine frk4 ?_ ?_ | refine frk5 ?_ ?_ | refine frk6 ?_ ?_ | refine frk7 ?_ ?_ | refine frk8 ?_ ?_ | refine frk9 ?_ ?_) <;> intro h <;> try (exfalso; omega)) | with_reducible refine quiet_and ?_ ?_ | with_reducible refine awp_drawnA mixed (by decide +kernel) ?_ | ((fail_if_success with_reducible refine stp ?_); simp -implicitDefEqProofs only [go_sem, Nat.reduceEqDiff, Nat.reduceAdd, Nat.reduceLT, Nat.reduceMul, Nat.reduceSub, Nat.reduceLeDiff, ↓reduceIte, reduceCtorEq, ↓String.reduceEq, String.reduceNe, Int.reduceToNat, Int.reduceLT, Int.reduceLE, Int.reduceGT, Int.reduceGE, Int.reduceEq, Int.reduceNe, Int.reduceBEq, Int.reduceBNe, Int.reduceAdd, Int.reduceSub, Int.reduceMul, Int.reduceNeg,  *]))
                  exact Again.intro ⟨v2, bn2, _, ln2, cap2, H2, y :: nx3, .mk ⟨W2.out.2.1, W2.out.2.2.1, W2.out.2.2.2, fun u hu => by
                    rcases List.mem_cons.1 hu with rfl | hu
                    · omega
                    · have := rt_first W2.out.2.1.srt u hu; omega⟩, (by first | (simp only [upd, put, Nat.reduceEqDiff, ↓reduceIte, t7]; done) | (simp [upd, put, t7]; done) | rfl | (simp [upd, put, t7]; rfl)), (by first | (simp only [upd, put, Nat.reduceEqDiff, ↓reduceIte, t8]; done) | (simp [upd, put, t8]; done) | rfl | (simp [upd, put, t8]; rfl)), (by first | (simp only [upd, put, Nat.reduceEqDiff, ↓reduceIte, t9]; done) | (simp [upd, put, t9]; done) | rfl | (simp [upd, put, t9]; rfl)), (by first | (simp only [upd, put, Nat.reduceEqDiff, ↓reduceIte, t10]; done) | (simp [upd, put, t10]; done) | rfl | (simp [upd, put, t10]; rfl))⟩
              · have lt2 : ¬ (0 : Int) < (ln2 : Int) := by omega
                repeat' (first | exact tf0 ‹_› | exact tf1 ‹_› | exact False.elim ‹_› | (with_reducible refine Al.intro ?_; intro pb hpb; (try simp only [hupd_none'] at hpb); (repeat rcases hpb with ⟨⟨hpx, hpy⟩, hpb⟩)) | with_reducible refine need ?_ | ((with_reducible first | refine frk0 ?_ ?_ | refine frk1 ?_ ?_ | refine frk2 ?_ ?_ | refine frk3 ?_ ?_ | refine frk4 ?_ ?_ | refine frk5 ?_ ?_ | refine frk6 ?_ ?_ | refine frk7 ?_ ?_ | refine frk8 ?_ ?_ | refine frk9 ?_ ?_) <;> intro h <;> try (exfalso; omega)) | with_reducible refine quiet_and ?_ ?_ | with_reducible refine awp_drawnA mixed (by decide +kernel) ?_ | ((fail_if_success with_reducible refine stp ?_); simp -implicitDefEqProofs only [go_sem, Nat.reduceEqDiff, Nat.reduceAdd, Nat.reduceLT, Nat.reduceMul, Nat.reduceSub, Nat.reduceLeDiff, ↓reduceIte, reduceCtorEq, ↓String.reduceEq, String.reduceNe, Int.reduceToNat, Int.reduceLT, Int.reduceLE, Int.reduceGT, Int.reduceGE, Int.reduceEq, Int.reduceNe, Int.reduceBEq, Int.reduceBNe, Int.reduceAdd, Int.reduceSub, Int.reduceMul, Int.reduceNeg,  *]))
                exact Again.intro ⟨v2, bn2, on2, ln2, cap2, H2, nx2, .mk ⟨W2.out.2.1, W2.out.2.2.1, W2.out.2.2.2, fun u hu => by
                  have e := W2.out.2.1.ln
                  have : nx2 = [] := List.eq_nil_of_length_eq_zero (by omega)
                  rw [this] at hu; cases hu⟩, (by first | (simp only [upd, put, Nat.reduceEqDiff, ↓reduceIte, t7]; done) | (simp [upd, put, t7]; done) | rfl | (simp [upd, put, t7]; rfl)), (by first | (simp only [upd, put, Nat.reduceEqDiff, ↓reduceIte, t8]; done) | (simp [upd, put, t8]; done) | rfl | (simp [upd, put, t8]; rfl)), (by first | (simp only [upd, put, Nat.reduceEqDiff, ↓reduceIte, t9]; done) | (simp [upd, put, t9]; done) | rfl | (simp [upd, put, t9]; rfl)), (by first | (simp only [upd, put, Nat.reduceEqDiff, ↓reduceIte, t10]; done) | (simp [upd, put, t10]; done) | rfl | (simp [upd, put, t10]; rfl))⟩
            · clear t7 t8 t9 t10
              rintro ts m3 ⟨v2, bn2, on2, ln2, cap2, H2, nx2, W2, t7, t8, t9, t10⟩
              have hne : 0 < H2.length := by
                obtain ⟨q2, q3, q4, q5⟩ := W2.out
                rcases Nat.eq_zero_or_pos H2.length with e | e
                · exfalso
                  have e2 := List.eq_nil_of_length_eq_zero e
                  subst e2
                  rcases HT.out.1 with ⟨et, u, hu, hk⟩ | ⟨et, ⟨u, hu, hk⟩, -⟩
                  · have := q5 u (by simpa using q4.mem_iff.2 hu); omega
                  · have := q5 u (by simpa using q4.mem_iff.2 hu); omega
                · exact e
              repeat' (first | exact tf0 ‹_› | exact tf1 ‹_› | exact False.elim ‹_› | (with_reducible refine Al.intro ?_; intro pb hpb; (try simp only [hupd_none'] at hpb); (repeat rcases hpb with ⟨⟨hpx, hpy⟩, hpb⟩)) | with_reducible refine need ?_ | ((with_reducible first | refine frk0 ?_ ?_ | refine frk1 ?_ ?_ | refine frk2 ?_ ?_ | refine frk3 ?_ ?_ | refine frk4 ?_ ?_ | refine frk5 ?_ ?_ | refine frk6 ?_ ?_ | refine frk7 ?_ ?_ | refine frk8 ?_ ?_ | refine frk9 ?_ ?_) <;> intro h <;> try (exfalso; omega)) | with_reducible refine quiet_and ?_ ?_ | with_reducible refine awp_drawnA mixed (by decide +kernel) ?_ | ((fail_if_success with_reducible refine stp ?_); simp -implicitDefEqProofs only [go_sem, Nat.reduceEqDiff, Nat.reduceAdd, Nat.reduceLT, Nat.reduceMul, Nat.reduceSub, Nat.reduceLeDiff, ↓reduceIte, reduceCtorEq, ↓String.reduceEq, String.reduceNe, Int.reduceToNat, Int.reduceLT, Int.reduceLE, Int.reduceGT, Int.reduceGE, Int.reduceEq, Int.reduceNe, Int.reduceBEq, Int.reduceBNe, Int.reduceAdd, Int.reduceSub, Int.reduceMul, Int.reduceNeg,  *]))
              refine hpop_spec G W2.out.1.mem.hp H1.out.1 W2.out.1.rh (by have := W2.out.1.len; have := HJL.out; omega) hne W2.out.1.hh _ ?_
              intro w v3 H3 m4 hp3 pop3 fr3
              have hwm : w ∈ H2 := pop3.perm.mem_iff.1 (by simp)
              have hwr := (rightJ_iff _).1 (W2.out.1.rh w hwm)
              have w1 : IntKind.i64.wrap (t + w.1.2.2.2) = t + w.1.2.2.2 := by
                have a := HT.out.2.2
                have b := W2.out.1.len
                have c := HJL.out
                have d := HT.out.2.1
                have e := W.out.2.2.pos
                rw [wrap_i64 (by omega) (by omega)]
              have HP3 := Hid.mk (And.intro hp3 (And.intro pop3 (And.intro fr3 (And.intro hwm hwr))))
              have MM := Hid.mk (W2.out.1.mem.heap fr3 hp3)
              clear hp3 pop3 fr3 hwm hwr
              repeat' (first | exact tf0 ‹_› | exact tf1 ‹_› | exact False.elim ‹_› | (with_reducible refine Al.intro ?_; intro pb hpb; (try simp only [hupd_none'] at hpb); (repeat rcases hpb with ⟨⟨hpx, hpy⟩, hpb⟩)) | with_reducible refine need ?_ | ((with_reducible first | refine frk0 ?_ ?_ | refine frk1 ?_ ?_ | refine frk2 ?_ ?_ | refine frk3 ?_ ?_ | refine frk4 ?_ ?_ | refine frk5 ?_ ?_ | refine frk6 ?_ ?_ | refine frk7 ?_ ?_ | refine frk8 ?_ ?_ | refine frk9 ?_ ?_) <;> intro h <;> try (exfalso; omega)) | with_reducible refine quiet_and ?_ ?_ | with_reducible refine awp_drawnA mixed (by decide +kernel) ?_ | ((fail_if_success with_reducible refine stp ?_); simp -implicitDefEqProofs only [go_sem, Nat.reduceEqDiff, Nat.reduceAdd, Nat.reduceLT, Nat.reduceMul, Nat.reduceSub, Nat.reduceLeDiff, ↓reduceIte, reduceCtorEq, ↓String.reduceEq, String.reduceNe, Int.reduceToNat, Int.reduceLT, Int.reduceLE, Int.reduceGT, Int.reduceGE, Int.reduceEq, Int.reduceNe, Int.reduceBEq, Int.reduceBNe, Int.reduceAdd, Int.reduceSub, Int.reduceMul, Int.reduceNeg,  encWt, *]))
              rename_i q1 hq1
              have hq1 : m4 q1 = none := hq1
              refine app1 (enc := encSt) (sz := 3) (C := S) (x := (w, t)) Try.underlying24 tk_38 eb_38 zl_38 (by decide) (by rw [Try.underlying24]; rfl) (by unfold isInt; rw [Try.underlying24]) encSt_len rfl ⟨3, by rw [hupd_at, if_pos rfl]⟩ ((MM.out.out.fresh hq1).fresh (by rw [hupd_ne hpx]; exact hpb)) (by have := W2.out.1.len; have := HJL.out; omega) (fun vo2 m6 h1 h2 => ?_)
              have mem2 := Hid.mk ((MM.out.into (subTrans (Sub.fresh (Sub.refl _) hq1) (Sub.fresh (Sub.refl _) (by rw [hupd_ne hpx]; exact hpb)))).sent h2 h1)
              have blk1 : m6 q1 = some (.cells [.int .i64 w.1.1, .int .i64 w.1.2.1, .int .i64 w.1.2.2.1, .int .i64 w.1.2.2.2, .int .i64 w.2] 5) := by
                rw [h2.1 q1 (fun e => slm_some MM.out.out e hq1) (by rw [hupd_ne hpy, hupd_at, if_pos rfl]; simp), hupd_ne hpy, hupd_at, if_pos rfl]
              clear h1 h2 MM
              repeat' (first | exact tf0 ‹_› | exact tf1 ‹_› | exact False.elim ‹_› | (with_reducible refine Al.intro ?_; intro pb hpb; (try simp only [hupd_none'] at hpb); (repeat rcases hpb with ⟨⟨hpx, hpy⟩, hpb⟩)) | with_reducible refine need ?_ | ((with_reducible first | refine frk0 ?_ ?_ | refine frk1 ?_ ?_ | refine frk2 ?_ ?_ | refine frk3 ?_ ?_ | refine frk4 ?_ ?_ | refine frk5 ?_ ?_ | refine frk6 ?_ ?_ | refine frk7 ?_ ?_ | refine frk8 ?_ ?_ | refine frk9 ?_ ?_) <;> intro h <;> try (exfalso; omega)) | with_reducible refine quiet_and ?_ ?_ | with_reducible refine awp_drawnA mixed (by decide +kernel) ?_ | ((fail_if_success with_reducible refine stp ?_); simp -implicitDefEqProofs only [go_sem, Nat.reduceEqDiff, Nat.reduceAdd, Nat.reduceLT, Nat.reduceMul, Nat.reduceSub, Nat.reduceLeDiff, ↓reduceIte, reduceCtorEq, ↓String.reduceEq, String.reduceNe, Int.reduceToNat, Int.reduceLT, Int.reduceLE, Int.reduceGT, Int.reduceGE, Int.reduceEq, Int.reduceNe, Int.reduceBEq, Int.reduceBNe, Int.reduceAdd, Int.reduceSub, Int.reduceMul, Int.reduceNeg,  *]))
              exact Again.intro ⟨H3.length + ln2, by
                  obtain ⟨a1, a2, a3⟩ := W.out
                  obtain ⟨b1, b2, b3, b4⟩ := W2.out
                  have c1 := HP3.out.2.1.perm.length_eq
                  have c2 := b3.length_eq
                  have c3 := b1.ln
                  have c4 := a2.ln
                  simp only [List.length_cons, List.length_append] at c1 c2
                  omega, _, Sub.refl _, v3, bn2, on2, ln2, cap2, vo2, H3, nx2, S ++ [(w, t)], t + w.1.2.2.2, .mk (by
                  obtain ⟨a1, a2, a3⟩ := W.out
                  obtain ⟨b1, b2, b3, b4⟩ := W2.out
                  obtain ⟨c1, c2, c3, c4, c5⟩ := HP3.out
                  obtain ⟨d1, d2, d3, d4⟩ := HT.out
                  have e1 := c2.perm.length_eq
                  simp only [List.length_cons] at e1
                  refine ⟨rfl, ⟨mem2.out, b1.ln, b1.srt, b1.rn, fun u hu => b1.rh u (c2.perm.mem_iff.1 (List.mem_cons_of_mem _ hu)), c2.heap, ?_⟩, ⟨?_, ?_, ?_, ?_⟩⟩
                  · have := b1.len
                    rw [List.length_append]; simp only [List.length_cons, List.length_nil]; omega
                  · intro u hu
                    have := b2 u (c2.perm.mem_iff.1 (List.mem_cons_of_mem _ hu))
                    omega
                  · have := a3.pos; omega
                  · rw [List.length_append]; simp only [List.length_cons, List.length_nil]; omega
                  · intro S' hS'
                    rw [List.append_assoc]
                    refine a3.goes _ (.cons (R' := H3 ++ nx2) ?_ d1 (b2 w c4) ?_ hS')
                    · exact ((c2.perm.append_right nx2)).trans b3
                    · intro u hu hk
                      rcases List.mem_append.1 (b3.mem_iff.2 hu) with h | h
                      · exact c2.least u h
                      · have := b4 u h; omega), (by first | (simp only [upd, put, Nat.reduceEqDiff, ↓reduceIte, t7]; done) | (simp [upd, put, t7]; done) | rfl | (simp [upd, put, t7]; rfl)), (by first | (simp only [upd, put, Nat.reduceEqDiff, ↓reduceIte, t8]; done) | (simp [upd, put, t8]; done) | rfl | (simp [upd, put, t8]; rfl)), ttt, ttt⟩)
      · rintro ts m' ⟨S, vo, HF, t9⟩
        repeat' (first | exact tf0 ‹_› | exact tf1 ‹_› | exact False.elim ‹_› | (with_reducible refine Al.intro ?_; intro pb hpb; (try simp only [hupd_none'] at hpb); (repeat rcases hpb with ⟨⟨hpx, hpy⟩, hpb⟩)) | with_reducible refine need ?_ | ((with_reducible first | refine frk0 ?_ ?_ | refine frk1 ?_ ?_ | refine frk2 ?_ ?_ | refine frk3 ?_ ?_ | refine frk4 ?_ ?_ | refine frk5 ?_ ?_ | refine frk6 ?_ ?_ | refine frk7 ?_ ?_ | refine frk8 ?_ ?_ | refine frk9 ?_ ?_) <;> intro h <;> try (exfalso; omega)) | with_reducible refine quiet_and ?_ ?_ | with_reducible refine awp_drawnA mixed (by decide +kernel) ?_ | ((fail_if_success with_reducible refine stp ?_); simp -implicitDefEqProofs only [go_sem, Nat.reduceEqDiff, Nat.reduceAdd, Nat.reduceLT, Nat.reduceMul, Nat.reduceSub, Nat.reduceLeDiff, ↓reduceIte, reduceCtorEq, ↓String.reduceEq, String.reduceNe, Int.reduceToNat, Int.reduceLT, Int.reduceLE, Int.reduceGT, Int.reduceGE, Int.reduceEq, Int.reduceNe, Int.reduceBEq, Int.reduceBNe, Int.reduceAdd, Int.reduceSub, Int.reduceMul, Int.reduceNeg,  *]))
        refine ⟨_, Sub.refl _, ?_⟩
        (try rw [t9])
        obtain ⟨h1, h2, h3, h4⟩ := HF.out
        exact HK.out HC.out S vo _ h1 h2 h3 h4
  · obtain ⟨e, he⟩ : ∃ e, e = checkF J n := ⟨_, rfl⟩
    rw [← he] at hc
    have HE := Hid.mk he
    clear he
    refine callWP_body Try.func9 rfl (N := 89) rfl (rs := [.tmp 4, .tmp 5]) rfl en_9 (of_decide_eq_true rfl) ?_
    repeat' (first | exact tf0 ‹_› | exact tf1 ‹_› | exact False.elim ‹_› | (with_reducible refine Al.intro ?_; intro pb hpb; (try simp only [hupd_none'] at hpb); (repeat rcases hpb with ⟨⟨hpx, hpy⟩, hpb⟩)) | with_reducible refine need ?_ | ((with_reducible first | refine frk0 ?_ ?_ | refine frk1 ?_ ?_ | refine frk2 ?_ ?_ | refine frk3 ?_ ?_ | refine frk4 ?_ ?_ | refine frk5 ?_ ?_ | refine frk6 ?_ ?_ | refine frk7 ?_ ?_ | refine frk8 ?_ ?_ | refine frk9 ?_ ?_) <;> intro h <;> try (exfalso; omega)) | with_reducible refine quiet_and ?_ ?_ | with_reducible refine awp_drawnA mixed (by decide +kernel) ?_ | ((fail_if_success with_reducible refine stp ?_); simp -implicitDefEqProofs only [go_sem, Nat.reduceEqDiff, Nat.reduceAdd, Nat.reduceLT, Nat.reduceMul, Nat.reduceSub, Nat.reduceLeDiff, ↓reduceIte, reduceCtorEq, ↓String.reduceEq, String.reduceNe, Int.reduceToNat, Int.reduceLT, Int.reduceLE, Int.reduceGT, Int.reduceGE, Int.reduceEq, Int.reduceNe, Int.reduceBEq, Int.reduceBNe, Int.reduceAdd, Int.reduceSub, Int.reduceMul, Int.reduceNeg,  *]))
    refine check_spec G J n vj m HS.out _ ?_
    rw [← HE.out]
    repeat' (first | exact tf0 ‹_› | exact tf1 ‹_› | exact False.elim ‹_› | (with_reducible refine Al.intro ?_; intro pb hpb; (try simp only [hupd_none'] at hpb); (repeat rcases hpb with ⟨⟨hpx, hpy⟩, hpb⟩)) | with_reducible refine need ?_ | ((with_reducible first | refine frk0 ?_ ?_ | refine frk1 ?_ ?_ | refine frk2 ?_ ?_ | refine frk3 ?_ ?_ | refine frk4 ?_ ?_ | refine frk5 ?_ ?_ | refine frk6 ?_ ?_ | refine frk7 ?_ ?_ | refine frk8 ?_ ?_ | refine frk9 ?_ ?_) <;> intro h <;> try (exfalso; omega)) | with_reducible refine quiet_and ?_ ?_ | with_reducible refine awp_drawnA mixed (by decide +kernel) ?_ | ((fail_if_success with_reducible refine stp ?_); simp -implicitDefEqProofs only [go_sem, Nat.reduceEqDiff, Nat.reduceAdd, Nat.reduceLT, Nat.reduceMul, Nat.reduceSub, Nat.reduceLeDiff, ↓reduceIte, reduceCtorEq, ↓String.reduceEq, String.reduceNe, Int.reduceToNat, Int.reduceLT, Int.reduceLE, Int.reduceGT, Int.reduceGE, Int.reduceEq, Int.reduceNe, Int.reduceBEq, Int.reduceBNe, Int.reduceAdd, Int.reduceSub, Int.reduceMul, Int.reduceNeg,  *]))
    exact ⟨_, Sub.refl _, by have := HB.out (by rw [← HE.out]; exact hc); rwa [← HE.out] at this⟩
end Go.Proofs.Ytmifapnmlhchlaa
