/- The document's run: the walk. -/
import Derived.Test.YtmifapnmlhchlaaE15
set_option linter.all false
namespace Go.Proofs.Ytmifapnmlhchlaa
open Go Go.Proofs.Ytmifapnmlhchlaa.Ab
open Go.Proofs (Try.prog)
set_option maxRecDepth 100000
abbrev encB (b : Bool) : List AVal := [.bool b]
/-- A row of truths. -/
def rowT (D : List Bool) (N : Nat) : ABlk := .cells (D.flatMap encB) N
theorem rowT_at (D : List Bool) (i : Nat) (h : i < D.length) (x : Bool) (hx : D.getD i false = x) : (D.flatMap encB).getD i .undef = .bool x := by
  have := flat_getD D (fun a => .bool a) [] i h
  rw [List.append_nil] at this
  rw [show D.flatMap encB = D.flatMap (fun a => [AVal.bool a]) from rfl, this, ← hx]
  simp [List.getD_eq_getElem?_getD, h]
theorem rowT_set (D : List Bool) (i : Nat) (x : Bool) (h : i < D.length) : splice (D.flatMap encB) i [.bool x] = (D.set i x).flatMap encB := by
  have := flat_set (enc := encB) (sz := 1) (fun _ => rfl) D [] i x h
  rw [Nat.mul_one, List.append_nil, List.append_nil] at this
  exact this
theorem rowT_len (D : List Bool) : (D.flatMap encB).length = D.length := by
  have := flat_len (enc := encB) (sz := 1) (fun _ => rfl) D
  omega
theorem rowT_rep (k : Nat) : ABlk.cells (rep k [AVal.bool false]) k = rowT (List.replicate k false) k := by
  unfold rowT
  rw [rep_one]
  congr 1
  induction k with
  | zero => rfl
  | succ k ih => rw [List.replicate_succ, List.replicate_succ, List.flatMap_cons, ← ih]; rfl
theorem aheadF_iff {n : Int} {a b : Jb} (ha : rightJ a = true) (hb : rightJ b = true) (hn : 1 ≤ n ∧ n ≤ 1073741824) : aheadF n a b = true ↔ LJ n a b := by
  unfold aheadF
  rw [ha, hb, decide_eq_true hn]
  simp only [Bool.true_and, decide_eq_true_eq]
  exact cmpJ_lt n a b
theorem j_cell (J : List Jb) (pre post : List AVal) (i : Nat) (hi : i < J.length) (x : Jb) (hx : J.getD i default = x) : (pre ++ (J.flatMap encJc ++ post)).getD (pre.length + i * 4 + 1) .undef = .int .i64 x.2.1 ∧ (pre ++ (J.flatMap encJc ++ post)).getD (pre.length + i * 4 + 3) .undef = .int .i64 x.2.2.2 := by
  have h := j_at J pre post i hi x hx
  have l := j_len J pre post i hi
  generalize hL : pre ++ (J.flatMap encJc ++ post) = L at h l
  generalize pre.length + i * 4 = a at h l
  have key : ∀ c, c < 4 → L.getD (a + c) .undef = ((L.drop a).take 4).getD c .undef := by
    intro c hc
    simp [List.getD_eq_getElem?_getD, List.getElem?_take, hc]
  rw [key 1 (by omega), key 3 (by omega), h]
  exact ⟨rfl, rfl⟩
/-- The memory of the document's run. -/
structure RMem (m m' : Heap) (pd L : Nat) (D : List Bool) (vo : AVal) (S : List (Wt × Int)) : Prop where
  row : m' pd = some (rowT D L)
  out : SlM encSt 3 S vo m'
  sub : Sub m m'
  fd : m pd = none
  fo : ∀ c, bOf vo = some c → m c = none
  no : bOf vo ≠ some pd
theorem RMem.into {m m' m2 : Heap} {pd L : Nat} {D : List Bool} {vo : AVal} {S : List (Wt × Int)} (h : RMem m m' pd L D vo S) (s : Sub m' m2) : RMem m m2 pd L D vo S :=
  ⟨s _ _ h.row, h.out.into s, fun x y hx => s x y (h.sub x y hx), h.fd, h.fo, h.no⟩
theorem RMem.sent {m m' m2 : Heap} {pd L : Nat} {D : List Bool} {vo vo2 : AVal} {S S2 : List (Wt × Int)} (h : RMem m m' pd L D vo S) (f : AppFr vo m' vo2 m2) (h2 : SlM encSt 3 S2 vo2 m2) : RMem m m2 pd L D vo2 S2 where
  row := by rw [f.1 pd h.no (by rw [h.row]; simp)]; exact h.row
  out := h2
  sub := fun x y hx => by
    rw [f.1 x (fun e => by rw [h.fo x e] at hx; cases hx) (by rw [h.sub x y hx]; simp)]
    exact h.sub x y hx
  fd := h.fd
  fo := fun c hc => by
    rcases f.2 c hc with e | e
    · exact h.sub.gone e
    · exact h.fo c e
  no := fun e => by
    rcases f.2 pd e with k | k
    · rw [h.row] at k; cases k
    · exact h.no k
structure RWay (n : Int) (J : List Jb) (D : List Bool) (S : List (Wt × Int)) (now0 now : Int) : Prop where
  dl : D.length = J.length
  len : S.length + (rem D J).length = J.length
  goes : ∀ S', Sends n (rem D J) now0 S' → Sends n (idxJ J) 0 (S ++ S')
  at_ : now = now0 ∨ (now0 < now ∧ (∃ u ∈ rem D J, now = kT u) ∧ ∀ u ∈ rem D J, now ≤ kT u)
  pos : 0 ≤ now0
  low : now ≤ 1125899906842624 + (S.length : Int) * 1073741824
set_option maxHeartbeats 4000000 in
theorem rrun_spec (G : Nat → AVal) (J : List Jb) (n : Int) (vj : AVal) (m : Heap) (hs : Rd J vj m) (K : AVal → Heap → Prop)
    (hbad : checkF J n ≠ 0 → K (.tuple [.nils, .int .i64 (checkF J n)]) m)
    (hK : checkF J n = 0 → ∀ (S : List (Wt × Int)) (vo : AVal) (m' : Heap), Sends n (idxJ J) 0 S → SlM encSt 3 S vo m' → Sub m m' → (∀ c, bOf vo = some c → m c = none) → K (.tuple [vo, .int .i64 0]) m') :
    CallWP Try.prog G 10 [vj, .int .i64 n] m K := by
  have HB := Hid.mk hbad
  have HK := Hid.mk hK
  have HS := Hid.mk hs
  obtain ⟨L, hL⟩ : ∃ L, L = J.length := ⟨_, rfl⟩
  have H0 := Hid.mk hL
  have ll : (J.map encJ).length = L := by rw [List.length_map]; exact H0.out.symm
  have hv : vj = .nils ∧ L = 0 ∨ (∃ b pre post N cap, vj = .slice b pre.length L cap ∧ m b = some (.cells (pre ++ (J.flatMap encJc ++ post)) N)) ∨ vj = .list 4 (J.map encJ) := by
    rcases hs with (⟨h1, h2⟩ | ⟨b, blk, hb, pre, post, N, cap, rfl, rfl, -, -⟩) | h
    · exact .inl ⟨h1, by rw [hL, h2]; rfl⟩
    · exact .inr (.inl ⟨b, pre, post, N, cap, by rw [hL], hb⟩)
    · exact .inr (.inr h)
  clear hbad hK hs hL
  by_cases h1 : 1 ≤ n
  · by_cases h2 : n ≤ 1073741824
    · have n1 : ¬ n < 1 := by omega
      have n2 : ¬ 1073741824 < n := by omega
      have HN := Hid.mk (And.intro h1 h2)
      clear h1 h2
      by_cases h3 : L ≤ 256
      · have n3 : ¬ (256 : Int) < (L : Int) := by omega
        rcases hv with ⟨rfl, rfl⟩ | ⟨b, pre, post, N, cap, rfl, hrow⟩ | rfl
        · have hJ : J = [] := List.eq_nil_of_length_eq_zero H0.out.symm
          have HC : Hid (checkF J n = 0) := .mk (by
            unfold checkF
            rw [if_neg (by simpa using HN.out), if_neg (by rw [hJ]; simp), if_neg (by rw [hJ]; simp)])
          have HJ := Hid.mk hJ
          clear hJ
          refine callWP_body Try.func10 rfl (N := 115) rfl (rs := [.tmp 4, .tmp 5]) rfl en_10 (of_decide_eq_true rfl) ?_
          repeat' (first | exact tf0 ‹_› | exact tf1 ‹_› | exact False.elim ‹_› | (with_reducible refine Al.intro ?_; intro pb hpb; (try simp only [hupd_none'] at hpb); (repeat rcases hpb with ⟨⟨hpx, hpy⟩, hpb⟩)) | with_reducible refine need ?_ | ((with_reducible first | refine frk0 ?_ ?_ | refine frk1 ?_ ?_ | refine frk2 ?_ ?_ | refine frk3 ?_ ?_ | refine frk4 ?_ ?_ | refine frk5 ?_ ?_ | refine frk6 ?_ ?_ | refine frk7 ?_ ?_ | refine frk8 ?_ ?_ | refine frk9 ?_ ?_) <;> intro h <;> try (exfalso; omega)) | with_reducible refine quiet_and ?_ ?_ | with_reducible refine awp_drawnA mixed (by decide +kernel) ?_ | ((fail_if_success with_reducible refine stp ?_); simp -implicitDefEqProofs only [go_sem, Nat.reduceEqDiff, Nat.reduceAdd, Nat.reduceLT, Nat.reduceMul, Nat.reduceSub, Nat.reduceLeDiff, ↓reduceIte, reduceCtorEq, ↓String.reduceEq, String.reduceNe, Int.reduceToNat, Int.reduceLT, Int.reduceLE, Int.reduceGT, Int.reduceGE, Int.reduceEq, Int.reduceNe, Int.reduceBEq, Int.reduceBNe, Int.reduceAdd, Int.reduceSub, Int.reduceMul, Int.reduceNeg,  *]))
          refine awp_loopP 0 (fun ts m' => ts 0 = .nils ∧ m' = m) (fun k ts m' => ts 0 = .nils ∧ ts 6 = .int .i64 0 ∧ m' = m) 0 ⟨ttt, ttt, rfl⟩ ?_ ?_
          · rintro k ts m1 ⟨t0, t6, hm1⟩
            subst m1
            repeat' (first | exact tf0 ‹_› | exact tf1 ‹_› | exact False.elim ‹_› | (with_reducible refine Al.intro ?_; intro pb hpb; (try simp only [hupd_none'] at hpb); (repeat rcases hpb with ⟨⟨hpx, hpy⟩, hpb⟩)) | with_reducible refine need ?_ | ((with_reducible first | refine frk0 ?_ ?_ | refine frk1 ?_ ?_ | refine frk2 ?_ ?_ | refine frk3 ?_ ?_ | refine frk4 ?_ ?_ | refine frk5 ?_ ?_ | refine frk6 ?_ ?_ | refine frk7 ?_ ?_ | refine frk8 ?_ ?_ | refine frk9 ?_ ?_) <;> intro h <;> try (exfalso; omega)) | with_reducible refine quiet_and ?_ ?_ | with_reducible refine awp_drawnA mixed (by decide +kernel) ?_ | ((fail_if_success with_reducible refine stp ?_); simp -implicitDefEqProofs only [go_sem, Nat.reduceEqDiff, Nat.reduceAdd, Nat.reduceLT, Nat.reduceMul, Nat.reduceSub, Nat.reduceLeDiff, ↓reduceIte, reduceCtorEq, ↓String.reduceEq, String.reduceNe, Int.reduceToNat, Int.reduceLT, Int.reduceLE, Int.reduceGT, Int.reduceGE, Int.reduceEq, Int.reduceNe, Int.reduceBEq, Int.reduceBNe, Int.reduceAdd, Int.reduceSub, Int.reduceMul, Int.reduceNeg,  *]))
            exact Again.intro ⟨(by first | (simp only [upd, put, Nat.reduceEqDiff, ↓reduceIte, t0]; done) | (simp [upd, put, t0]; done) | rfl | (simp [upd, put, t0]; rfl)), rfl⟩
          · rintro ts m1 ⟨t0, hm1⟩
            subst m1
            repeat' (first | exact tf0 ‹_› | exact tf1 ‹_› | exact False.elim ‹_› | (with_reducible refine Al.intro ?_; intro pb hpb; (try simp only [hupd_none'] at hpb); (repeat rcases hpb with ⟨⟨hpx, hpy⟩, hpb⟩)) | with_reducible refine need ?_ | ((with_reducible first | refine frk0 ?_ ?_ | refine frk1 ?_ ?_ | refine frk2 ?_ ?_ | refine frk3 ?_ ?_ | refine frk4 ?_ ?_ | refine frk5 ?_ ?_ | refine frk6 ?_ ?_ | refine frk7 ?_ ?_ | refine frk8 ?_ ?_ | refine frk9 ?_ ?_) <;> intro h <;> try (exfalso; omega)) | with_reducible refine quiet_and ?_ ?_ | with_reducible refine awp_drawnA mixed (by decide +kernel) ?_ | ((fail_if_success with_reducible refine stp ?_); simp -implicitDefEqProofs only [go_sem, Nat.reduceEqDiff, Nat.reduceAdd, Nat.reduceLT, Nat.reduceMul, Nat.reduceSub, Nat.reduceLeDiff, ↓reduceIte, reduceCtorEq, ↓String.reduceEq, String.reduceNe, Int.reduceToNat, Int.reduceLT, Int.reduceLE, Int.reduceGT, Int.reduceGE, Int.reduceEq, Int.reduceNe, Int.reduceBEq, Int.reduceBNe, Int.reduceAdd, Int.reduceSub, Int.reduceMul, Int.reduceNeg,  *]))
            refine awp_loopP 2 (fun ts m2 => ts 8 = .nils ∧ Hid (Sub m m2)) (fun k ts m2 => ts 0 = .nils ∧ ts 8 = .nils ∧ Hid (Sub m m2)) 0 ⟨(by first | (simp only [upd, put, Nat.reduceEqDiff, ↓reduceIte, t0]; done) | (simp [upd, put, t0]; done) | rfl | (simp [upd, put, t0]; rfl)), ttt, .mk (Sub.fresh (Sub.refl _) hpb)⟩ ?_ ?_
            · rintro k ts m2 ⟨t0, t8, hs⟩
              repeat' (first | exact tf0 ‹_› | exact tf1 ‹_› | exact False.elim ‹_› | (with_reducible refine Al.intro ?_; intro pb hpb; (try simp only [hupd_none'] at hpb); (repeat rcases hpb with ⟨⟨hpx, hpy⟩, hpb⟩)) | with_reducible refine need ?_ | ((with_reducible first | refine frk0 ?_ ?_ | refine frk1 ?_ ?_ | refine frk2 ?_ ?_ | refine frk3 ?_ ?_ | refine frk4 ?_ ?_ | refine frk5 ?_ ?_ | refine frk6 ?_ ?_ | refine frk7 ?_ ?_ | refine frk8 ?_ ?_ | refine frk9 ?_ ?_) <;> intro h <;> try (exfalso; omega)) | with_reducible refine quiet_and ?_ ?_ | with_reducible refine awp_drawnA mixed (by decide +kernel) ?_ | ((fail_if_success with_reducible refine stp ?_); simp -implicitDefEqProofs only [go_sem, Nat.reduceEqDiff, Nat.reduceAdd, Nat.reduceLT, Nat.reduceMul, Nat.reduceSub, Nat.reduceLeDiff, ↓reduceIte, reduceCtorEq, ↓String.reduceEq, String.reduceNe, Int.reduceToNat, Int.reduceLT, Int.reduceLE, Int.reduceGT, Int.reduceGE, Int.reduceEq, Int.reduceNe, Int.reduceBEq, Int.reduceBNe, Int.reduceAdd, Int.reduceSub, Int.reduceMul, Int.reduceNeg,  *]))
              exact Again.intro ⟨(by first | (simp only [upd, put, Nat.reduceEqDiff, ↓reduceIte, t8]; done) | (simp [upd, put, t8]; done) | rfl | (simp [upd, put, t8]; rfl)), hs⟩
            · rintro ts m2 ⟨t8, hs⟩
              repeat' (first | exact tf0 ‹_› | exact tf1 ‹_› | exact False.elim ‹_› | (with_reducible refine Al.intro ?_; intro pb hpb; (try simp only [hupd_none'] at hpb); (repeat rcases hpb with ⟨⟨hpx, hpy⟩, hpb⟩)) | with_reducible refine need ?_ | ((with_reducible first | refine frk0 ?_ ?_ | refine frk1 ?_ ?_ | refine frk2 ?_ ?_ | refine frk3 ?_ ?_ | refine frk4 ?_ ?_ | refine frk5 ?_ ?_ | refine frk6 ?_ ?_ | refine frk7 ?_ ?_ | refine frk8 ?_ ?_ | refine frk9 ?_ ?_) <;> intro h <;> try (exfalso; omega)) | with_reducible refine quiet_and ?_ ?_ | with_reducible refine awp_drawnA mixed (by decide +kernel) ?_ | ((fail_if_success with_reducible refine stp ?_); simp -implicitDefEqProofs only [go_sem, Nat.reduceEqDiff, Nat.reduceAdd, Nat.reduceLT, Nat.reduceMul, Nat.reduceSub, Nat.reduceLeDiff, ↓reduceIte, reduceCtorEq, ↓String.reduceEq, String.reduceNe, Int.reduceToNat, Int.reduceLT, Int.reduceLE, Int.reduceGT, Int.reduceGE, Int.reduceEq, Int.reduceNe, Int.reduceBEq, Int.reduceBNe, Int.reduceAdd, Int.reduceSub, Int.reduceMul, Int.reduceNeg,  *]))
              refine ⟨_, Sub.refl _, ?_⟩
              exact HK.out HC.out [] .nils _ (by rw [HJ.out]; exact .nil 0) (.inl ⟨rfl, rfl⟩) hs.out (by simp [bOf])
        · have HR := Hid.mk hrow
          have nl := neL hrow
          have nr := neR hrow
          refine callWP_body Try.func10 rfl (N := 115) rfl (rs := [.tmp 4, .tmp 5]) rfl en_10 (of_decide_eq_true rfl) ?_
          repeat' (first | exact tf0 ‹_› | exact tf1 ‹_› | exact False.elim ‹_› | (with_reducible refine Al.intro ?_; intro pb hpb; (try simp only [hupd_none'] at hpb); (repeat rcases hpb with ⟨⟨hpx, hpy⟩, hpb⟩)) | with_reducible refine need ?_ | ((with_reducible first | refine frk0 ?_ ?_ | refine frk1 ?_ ?_ | refine frk2 ?_ ?_ | refine frk3 ?_ ?_ | refine frk4 ?_ ?_ | refine frk5 ?_ ?_ | refine frk6 ?_ ?_ | refine frk7 ?_ ?_ | refine frk8 ?_ ?_ | refine frk9 ?_ ?_) <;> intro h <;> try (exfalso; omega)) | with_reducible refine quiet_and ?_ ?_ | with_reducible refine awp_drawnA mixed (by decide +kernel) ?_ | ((fail_if_success with_reducible refine stp ?_); simp -implicitDefEqProofs only [go_sem, Nat.reduceEqDiff, Nat.reduceAdd, Nat.reduceLT, Nat.reduceMul, Nat.reduceSub, Nat.reduceLeDiff, ↓reduceIte, reduceCtorEq, ↓String.reduceEq, String.reduceNe, Int.reduceToNat, Int.reduceLT, Int.reduceLE, Int.reduceGT, Int.reduceGE, Int.reduceEq, Int.reduceNe, Int.reduceBEq, Int.reduceBNe, Int.reduceAdd, Int.reduceSub, Int.reduceMul, Int.reduceNeg,  *]))
          refine awp_loopP 0 (fun ts m' => Hid (∀ j ∈ J, rightJ j = true) ∧ ts 0 = .slice b pre.length L cap ∧ ts 1 = .int .i64 n ∧ m' = m)
            (fun k ts m' => ∃ i : Nat, Hid (k = L - i ∧ i ≤ L ∧ ∀ j ∈ J.take i, rightJ j = true) ∧ ts 0 = .slice b pre.length L cap ∧ ts 1 = .int .i64 n ∧ ts 6 = .int .i64 (i : Nat) ∧ m' = m) L
            ⟨0, .mk ⟨rfl, Nat.zero_le _, by simp⟩, ttt, ttt, ttt, rfl⟩ ?_ ?_
          · rintro k ts m1 ⟨i, H, t0, t1, t6, hm1⟩
            subst m1
            by_cases hi : i < L
            · have lt : (i : Int) < (L : Int) := by omega
              have hiJ : i < J.length := by have := H0.out; omega
              obtain ⟨x, hx⟩ : ∃ x, J.getD i default = x := ⟨_, rfl⟩
              have g1 := j_at J pre post i hiJ x hx
              have l1 := j_len J pre post i hiJ
              have w1 : IntKind.i64.wrap ((i : Int) + 1) = ((i + 1 : Nat) : Int) := by rw [wrap_i64 (by omega) (by omega)]; omega
              have hxm : x ∈ J := by rw [← hx]; exact getD_mem J i hiJ
              have hJt : J.take (i + 1) = J.take i ++ [x] := by rw [← hx, List.take_add_one]; simp [List.getD_eq_getElem?_getD, hiJ]
              have HX := Hid.mk (And.intro hxm hJt)
              clear hx hxm hJt hiJ
              repeat' (first | exact tf0 ‹_› | exact tf1 ‹_› | exact False.elim ‹_› | (with_reducible refine Al.intro ?_; intro pb hpb; (try simp only [hupd_none'] at hpb); (repeat rcases hpb with ⟨⟨hpx, hpy⟩, hpb⟩)) | with_reducible refine need ?_ | ((with_reducible first | refine frk0 ?_ ?_ | refine frk1 ?_ ?_ | refine frk2 ?_ ?_ | refine frk3 ?_ ?_ | refine frk4 ?_ ?_ | refine frk5 ?_ ?_ | refine frk6 ?_ ?_ | refine frk7 ?_ ?_ | refine frk8 ?_ ?_ | refine frk9 ?_ ?_) <;> intro h <;> try (exfalso; omega)) | with_reducible refine quiet_and ?_ ?_ | with_reducible refine awp_drawnA mixed (by decide +kernel) ?_ | ((fail_if_success with_reducible refine stp ?_); simp -implicitDefEqProofs only [go_sem, Nat.reduceEqDiff, Nat.reduceAdd, Nat.reduceLT, Nat.reduceMul, Nat.reduceSub, Nat.reduceLeDiff, ↓reduceIte, reduceCtorEq, ↓String.reduceEq, String.reduceNe, Int.reduceToNat, Int.reduceLT, Int.reduceLE, Int.reduceGT, Int.reduceGE, Int.reduceEq, Int.reduceNe, Int.reduceBEq, Int.reduceBNe, Int.reduceAdd, Int.reduceSub, Int.reduceMul, Int.reduceNeg,  *]))
              refine CallWP.to (rright_spec G x _) ?_
              by_cases hr : rightJ x = true
              · have hr' : (!rightJ x) = false := by rw [hr]; rfl
                repeat' (first | exact tf0 ‹_› | exact tf1 ‹_› | exact False.elim ‹_› | (with_reducible refine Al.intro ?_; intro pb hpb; (try simp only [hupd_none'] at hpb); (repeat rcases hpb with ⟨⟨hpx, hpy⟩, hpb⟩)) | with_reducible refine need ?_ | ((with_reducible first | refine frk0 ?_ ?_ | refine frk1 ?_ ?_ | refine frk2 ?_ ?_ | refine frk3 ?_ ?_ | refine frk4 ?_ ?_ | refine frk5 ?_ ?_ | refine frk6 ?_ ?_ | refine frk7 ?_ ?_ | refine frk8 ?_ ?_ | refine frk9 ?_ ?_) <;> intro h <;> try (exfalso; omega)) | with_reducible refine quiet_and ?_ ?_ | with_reducible refine awp_drawnA mixed (by decide +kernel) ?_ | ((fail_if_success with_reducible refine stp ?_); simp -implicitDefEqProofs only [go_sem, Nat.reduceEqDiff, Nat.reduceAdd, Nat.reduceLT, Nat.reduceMul, Nat.reduceSub, Nat.reduceLeDiff, ↓reduceIte, reduceCtorEq, ↓String.reduceEq, String.reduceNe, Int.reduceToNat, Int.reduceLT, Int.reduceLE, Int.reduceGT, Int.reduceGE, Int.reduceEq, Int.reduceNe, Int.reduceBEq, Int.reduceBNe, Int.reduceAdd, Int.reduceSub, Int.reduceMul, Int.reduceNeg,  *]))
                exact Again.intro ⟨L - (i + 1), by have := H.out; omega, _, Sub.refl _, i + 1, .mk ⟨rfl, by omega, fun j hj => by
                  rw [HX.out.2] at hj
                  rcases List.mem_append.1 hj with hj | hj
                  · exact H.out.2.2 j hj
                  · rw [List.mem_singleton.1 hj]; exact hr⟩, (by first | (simp only [upd, put, Nat.reduceEqDiff, ↓reduceIte, t0]; done) | (simp [upd, put, t0]; done) | rfl | (simp [upd, put, t0]; rfl)), (by first | (simp only [upd, put, Nat.reduceEqDiff, ↓reduceIte, t1]; done) | (simp [upd, put, t1]; done) | rfl | (simp [upd, put, t1]; rfl)), ttt, rfl⟩
              · have hr2 : rightJ x = false := by simpa using hr
                have hr' : (!rightJ x) = true := by rw [hr2]; rfl
                have hc : checkF J n = 10 := by
                  unfold checkF
                  rw [if_neg (by simpa using HN.out), if_neg (by have := H0.out; omega), if_pos (by rw [List.any_eq_true]; exact ⟨x, HX.out.1, hr'⟩)]
                have HC := Hid.mk hc
                clear hc
                repeat' (first | exact tf0 ‹_› | exact tf1 ‹_› | exact False.elim ‹_› | (with_reducible refine Al.intro ?_; intro pb hpb; (try simp only [hupd_none'] at hpb); (repeat rcases hpb with ⟨⟨hpx, hpy⟩, hpb⟩)) | with_reducible refine need ?_ | ((with_reducible first | refine frk0 ?_ ?_ | refine frk1 ?_ ?_ | refine frk2 ?_ ?_ | refine frk3 ?_ ?_ | refine frk4 ?_ ?_ | refine frk5 ?_ ?_ | refine frk6 ?_ ?_ | refine frk7 ?_ ?_ | refine frk8 ?_ ?_ | refine frk9 ?_ ?_) <;> intro h <;> try (exfalso; omega)) | with_reducible refine quiet_and ?_ ?_ | with_reducible refine awp_drawnA mixed (by decide +kernel) ?_ | ((fail_if_success with_reducible refine stp ?_); simp -implicitDefEqProofs only [go_sem, Nat.reduceEqDiff, Nat.reduceAdd, Nat.reduceLT, Nat.reduceMul, Nat.reduceSub, Nat.reduceLeDiff, ↓reduceIte, reduceCtorEq, ↓String.reduceEq, String.reduceNe, Int.reduceToNat, Int.reduceLT, Int.reduceLE, Int.reduceGT, Int.reduceGE, Int.reduceEq, Int.reduceNe, Int.reduceBEq, Int.reduceBNe, Int.reduceAdd, Int.reduceSub, Int.reduceMul, Int.reduceNeg,  *]))
                exact ⟨_, Sub.refl _, by have := HB.out (by rw [HC.out]; decide); rwa [HC.out] at this⟩
            · have lt : ¬ (i : Int) < (L : Int) := by omega
              repeat' (first | exact tf0 ‹_› | exact tf1 ‹_› | exact False.elim ‹_› | (with_reducible refine Al.intro ?_; intro pb hpb; (try simp only [hupd_none'] at hpb); (repeat rcases hpb with ⟨⟨hpx, hpy⟩, hpb⟩)) | with_reducible refine need ?_ | ((with_reducible first | refine frk0 ?_ ?_ | refine frk1 ?_ ?_ | refine frk2 ?_ ?_ | refine frk3 ?_ ?_ | refine frk4 ?_ ?_ | refine frk5 ?_ ?_ | refine frk6 ?_ ?_ | refine frk7 ?_ ?_ | refine frk8 ?_ ?_ | refine frk9 ?_ ?_) <;> intro h <;> try (exfalso; omega)) | with_reducible refine quiet_and ?_ ?_ | with_reducible refine awp_drawnA mixed (by decide +kernel) ?_ | ((fail_if_success with_reducible refine stp ?_); simp -implicitDefEqProofs only [go_sem, Nat.reduceEqDiff, Nat.reduceAdd, Nat.reduceLT, Nat.reduceMul, Nat.reduceSub, Nat.reduceLeDiff, ↓reduceIte, reduceCtorEq, ↓String.reduceEq, String.reduceNe, Int.reduceToNat, Int.reduceLT, Int.reduceLE, Int.reduceGT, Int.reduceGE, Int.reduceEq, Int.reduceNe, Int.reduceBEq, Int.reduceBNe, Int.reduceAdd, Int.reduceSub, Int.reduceMul, Int.reduceNeg,  *]))
              exact Again.intro ⟨.mk fun j hj => H.out.2.2 j (by rw [List.take_of_length_le (by have := H0.out; omega)]; exact hj), (by first | (simp only [upd, put, Nat.reduceEqDiff, ↓reduceIte, t0]; done) | (simp [upd, put, t0]; done) | rfl | (simp [upd, put, t0]; rfl)), (by first | (simp only [upd, put, Nat.reduceEqDiff, ↓reduceIte, t1]; done) | (simp [upd, put, t1]; done) | rfl | (simp [upd, put, t1]; rfl)), rfl⟩
          · rintro ts m1 ⟨H, t0, t1, hm1⟩
            subst m1
            have HC : Hid (checkF J n = 0) := .mk (by
              unfold checkF
              rw [if_neg (by simpa using HN.out), if_neg (by have := H0.out; omega), if_neg (by
                simp only [List.any_eq_true, Bool.not_eq_true', not_exists, not_and, Bool.not_eq_false]
                exact H.out)])
            repeat' (first | exact tf0 ‹_› | exact tf1 ‹_› | exact False.elim ‹_› | (with_reducible refine Al.intro ?_; intro pb hpb; (try simp only [hupd_none'] at hpb); (repeat rcases hpb with ⟨⟨hpx, hpy⟩, hpb⟩)) | with_reducible refine need ?_ | ((with_reducible first | refine frk0 ?_ ?_ | refine frk1 ?_ ?_ | refine frk2 ?_ ?_ | refine frk3 ?_ ?_ | refine frk4 ?_ ?_ | refine frk5 ?_ ?_ | refine frk6 ?_ ?_ | refine frk7 ?_ ?_ | refine frk8 ?_ ?_ | refine frk9 ?_ ?_) <;> intro h <;> try (exfalso; omega)) | with_reducible refine quiet_and ?_ ?_ | with_reducible refine awp_drawnA mixed (by decide +kernel) ?_ | ((fail_if_success with_reducible refine stp ?_); simp -implicitDefEqProofs only [go_sem, Nat.reduceEqDiff, Nat.reduceAdd, Nat.reduceLT, Nat.reduceMul, Nat.reduceSub, Nat.reduceLeDiff, ↓reduceIte, reduceCtorEq, ↓String.reduceEq, String.reduceNe, Int.reduceToNat, Int.reduceLT, Int.reduceLE, Int.reduceGT, Int.reduceGE, Int.reduceEq, Int.reduceNe, Int.reduceBEq, Int.reduceBNe, Int.reduceAdd, Int.reduceSub, Int.reduceMul, Int.reduceNeg,  *]))
            have HP := Hid.mk hpb
            have hbp := nl pb hpb
            obtain ⟨pd, epd⟩ : ∃ pd, pd = pb := ⟨_, rfl⟩
            rw [rowT_rep]
            clear hrow nl nr hpb
            subst epd
            refine awp_loopP 2 (fun ts m2 => ∃ (S : List (Wt × Int)) (vo : AVal), Hid (Sends n (idxJ J) 0 S ∧ SlM encSt 3 S vo m2 ∧ Sub m m2 ∧ (∀ c, bOf vo = some c → m c = none)) ∧ ts 8 = vo)
              (fun k ts m2 => ∃ (D : List Bool) (vo : AVal) (S : List (Wt × Int)) (now0 now : Int), Hid (k = 2 * (rem D J).length + (if now = now0 then 1 else 0) ∧ RMem m m2 pd L D vo S ∧ RWay n J D S now0 now) ∧ ts 0 = .slice b pre.length L cap ∧ ts 1 = .int .i64 n ∧ ts 7 = .slice pd 0 L L ∧ ts 8 = vo ∧ ts 9 = .int .i64 now) (2 * L + 1)
              ⟨List.replicate L false, .nils, [], 0, 0, .mk ⟨by rw [rem_start, idxJ_len, if_pos rfl, H0.out], ⟨by rw [hupd_at, if_pos rfl], .inl ⟨rfl, rfl⟩, Sub.fresh (Sub.refl _) HP.out, HP.out, by simp [bOf], by simp [bOf]⟩,
                ⟨by rw [List.length_replicate, H0.out], by rw [rem_start, idxJ_len]; simp, by intro S' h; rw [rem_start] at h; exact h, .inl rfl, Int.le_refl _, by simp⟩⟩, (by first | (simp only [upd, put, Nat.reduceEqDiff, ↓reduceIte, t0]; done) | (simp [upd, put, t0]; done) | rfl | (simp [upd, put, t0]; rfl)), (by first | (simp only [upd, put, Nat.reduceEqDiff, ↓reduceIte, t1]; done) | (simp [upd, put, t1]; done) | rfl | (simp [upd, put, t1]; rfl)), ttt, ttt, ttt⟩ ?_ ?_
            · have HRT := H
              clear t0 t1 H
              rintro k ts m2 ⟨D, vo, S, now0, now, W, t0, t1, t7, t8, t9⟩
              have hrow := W.out.2.1.sub _ _ HR.out
              have hdr := W.out.2.1.row
              have hvo : (vo = .nils ∧ S.length = 0) ∨ ∃ bo oo co, vo = .slice bo oo S.length co := by
                rcases W.out.2.1.out.slv with ⟨h1, h2⟩ | h
                · exact .inl ⟨h1, by rw [h2]; rfl⟩
                · exact .inr h
              have hSL : S.length ≤ L := by have := W.out.2.2.len; have := H0.out; omega
              obtain ⟨ls, hls⟩ : ∃ ls, ls = S.length := ⟨_, rfl⟩
              rw [← hls] at hvo hSL
              have HLS := Hid.mk hls
              clear hls
              by_cases hlt : ls < L
              · have lt : (ls : Int) < (L : Int) := by omega
                have lt0 : (0 : Int) < (L : Int) := by omega
                rcases hvo with ⟨hvo, hl0⟩ | ⟨bo, oo, co, hvo⟩
                all_goals (
                  have t8' := t8
                  rw [hvo] at t8'
                  have HV := Hid.mk hvo
                  clear hvo
                  (try subst hl0)
                  have T8 := Hid.mk t8
                  clear t8
                  repeat' (first | exact tf0 ‹_› | exact tf1 ‹_› | exact False.elim ‹_› | (with_reducible refine Al.intro ?_; intro pb hpb; (try simp only [hupd_none'] at hpb); (repeat rcases hpb with ⟨⟨hpx, hpy⟩, hpb⟩)) | with_reducible refine need ?_ | ((with_reducible first | refine frk0 ?_ ?_ | refine frk1 ?_ ?_ | refine frk2 ?_ ?_ | refine frk3 ?_ ?_ | refine frk4 ?_ ?_ | refine frk5 ?_ ?_ | refine frk6 ?_ ?_ | refine frk7 ?_ ?_ | refine frk8 ?_ ?_ | refine frk9 ?_ ?_) <;> intro h <;> try (exfalso; omega)) | with_reducible refine quiet_and ?_ ?_ | with_reducible refine awp_drawnA mixed (by decide +kernel) ?_ | ((fail_if_success with_reducible refine stp ?_); simp -implicitDefEqProofs only [go_sem, Nat.reduceEqDiff, Nat.reduceAdd, Nat.reduceLT, Nat.reduceMul, Nat.reduceSub, Nat.reduceLeDiff, ↓reduceIte, reduceCtorEq, ↓String.reduceEq, String.reduceNe, Int.reduceToNat, Int.reduceLT, Int.reduceLE, Int.reduceGT, Int.reduceGE, Int.reduceEq, Int.reduceNe, Int.reduceBEq, Int.reduceBNe, Int.reduceAdd, Int.reduceSub, Int.reduceMul, Int.reduceNeg,  *]))
                  have t8 := T8.out
                  clear t8'
                  refine awp_loopP 4 (fun ts m3 => ∃ (s bst : Int), Hid (Soon D J L s ∧ Best n D J now L bst) ∧ ts 0 = .slice b pre.length L cap ∧ ts 1 = .int .i64 n ∧ ts 7 = .slice pd 0 L L ∧ ts 8 = vo ∧ ts 9 = .int .i64 now ∧ ts 10 = .int .i64 bst ∧ ts 11 = .int .i64 s ∧ m3 = m2)
                    (fun k3 ts m3 => ∃ (i : Nat) (s bst : Int), Hid (k3 = L - i ∧ i ≤ L ∧ Soon D J i s ∧ Best n D J now i bst) ∧ ts 0 = .slice b pre.length L cap ∧ ts 1 = .int .i64 n ∧ ts 7 = .slice pd 0 L L ∧ ts 8 = vo ∧ ts 9 = .int .i64 now ∧ ts 10 = .int .i64 bst ∧ ts 11 = .int .i64 s ∧ ts 12 = .int .i64 (i : Nat) ∧ m3 = m2) L
                    ⟨0, 1152921504606846976, -1, .mk ⟨rfl, Nat.zero_le _, ⟨.inl rfl, fun u hu h => absurd h (by obtain ⟨j, _, rfl, _⟩ := mem_rem.1 hu; simp only; omega)⟩, .inl ⟨rfl, fun u hu h => absurd h (by obtain ⟨j, _, rfl, _⟩ := mem_rem.1 hu; simp only; omega)⟩⟩, (by first | (simp only [upd, put, Nat.reduceEqDiff, ↓reduceIte, t0]; done) | (simp [upd, put, t0]; done) | rfl | (simp [upd, put, t0]; rfl)), (by first | (simp only [upd, put, Nat.reduceEqDiff, ↓reduceIte, t1]; done) | (simp [upd, put, t1]; done) | rfl | (simp [upd, put, t1]; rfl)), (by first | (simp only [upd, put, Nat.reduceEqDiff, ↓reduceIte, t7]; done) | (simp [upd, put, t7]; done) | rfl | (simp [upd, put, t7]; rfl)), (by first | (simp only [upd, put, Nat.reduceEqDiff, ↓reduceIte, t8]; done) | (simp [upd, put, t8]; done) | rfl | (simp [upd, put, t8]; rfl)), (by first | (simp only [upd, put, Nat.reduceEqDiff, ↓reduceIte, t9]; done) | (simp [upd, put, t9]; done) | rfl | (simp [upd, put, t9]; rfl)), ttt, ttt, ttt, rfl⟩ ?_ ?_
                  · clear t0 t1 t7 t8 t9
                    rintro k3 ts m3 ⟨i, s, bst, I, t0, t1, t7, t8, t9, t10, t11, t12, hm3⟩
                    subst m3
                    by_cases hi : i < L
                    · have lti : (i : Int) < (L : Int) := by omega
                      have hiJ : i < J.length := by have := H0.out; omega
                      have hiD : i < D.length := by have := W.out.2.2.dl; omega
                      obtain ⟨x, hx⟩ : ∃ x, J.getD i default = x := ⟨_, rfl⟩
                      have g0 := j_at J pre post i hiJ x hx
                      obtain ⟨g1, -⟩ := j_cell J pre post i hiJ x hx
                      have l1 := j_len J pre post i hiJ
                      have w1 : IntKind.i64.wrap ((i : Int) + 1) = ((i + 1 : Nat) : Int) := by rw [wrap_i64 (by omega) (by omega)]; omega
                      have l2 := rowT_len D
                      have l3 : i < (D.flatMap encB).length := by omega
                      have HX := Hid.mk hx
                      cases hq : D.getD i false with
                      | true =>
                        have g2 := rowT_at D i hiD true hq
                        have HQ := Hid.mk hq
                        clear hx hq l2 hiJ hiD
                        repeat' (first | exact tf0 ‹_› | exact tf1 ‹_› | exact False.elim ‹_› | (with_reducible refine Al.intro ?_; intro pb hpb; (try simp only [hupd_none'] at hpb); (repeat rcases hpb with ⟨⟨hpx, hpy⟩, hpb⟩)) | with_reducible refine need ?_ | ((with_reducible first | refine frk0 ?_ ?_ | refine frk1 ?_ ?_ | refine frk2 ?_ ?_ | refine frk3 ?_ ?_ | refine frk4 ?_ ?_ | refine frk5 ?_ ?_ | refine frk6 ?_ ?_ | refine frk7 ?_ ?_ | refine frk8 ?_ ?_ | refine frk9 ?_ ?_) <;> intro h <;> try (exfalso; omega)) | with_reducible refine quiet_and ?_ ?_ | with_reducible refine awp_drawnA mixed (by decide +kernel) ?_ | ((fail_if_success with_reducible refine stp ?_); simp -implicitDefEqProofs only [go_sem, Nat.reduceEqDiff, Nat.reduceAdd, Nat.reduceLT, Nat.reduceMul, Nat.reduceSub, Nat.reduceLeDiff, ↓reduceIte, reduceCtorEq, ↓String.reduceEq, String.reduceNe, Int.reduceToNat, Int.reduceLT, Int.reduceLE, Int.reduceGT, Int.reduceGE, Int.reduceEq, Int.reduceNe, Int.reduceBEq, Int.reduceBNe, Int.reduceAdd, Int.reduceSub, Int.reduceMul, Int.reduceNeg,  rowT, *]))
                        exact Again.intro ⟨L - (i + 1), by have := I.out; omega, _, Sub.refl _, i + 1, s, bst, .mk ⟨rfl, by omega, I.out.2.2.1.skip HQ.out, I.out.2.2.2.skip HQ.out⟩, (by first | (simp only [upd, put, Nat.reduceEqDiff, ↓reduceIte, t0]; done) | (simp [upd, put, t0]; done) | rfl | (simp [upd, put, t0]; rfl)), (by first | (simp only [upd, put, Nat.reduceEqDiff, ↓reduceIte, t1]; done) | (simp [upd, put, t1]; done) | rfl | (simp [upd, put, t1]; rfl)), (by first | (simp only [upd, put, Nat.reduceEqDiff, ↓reduceIte, t7]; done) | (simp [upd, put, t7]; done) | rfl | (simp [upd, put, t7]; rfl)), (by first | (simp only [upd, put, Nat.reduceEqDiff, ↓reduceIte, t8]; done) | (simp [upd, put, t8]; done) | rfl | (simp [upd, put, t8]; rfl)), (by first | (simp only [upd, put, Nat.reduceEqDiff, ↓reduceIte, t9]; done) | (simp [upd, put, t9]; done) | rfl | (simp [upd, put, t9]; rfl)), (by first | (simp only [upd, put, Nat.reduceEqDiff, ↓reduceIte, t10]; done) | (simp [upd, put, t10]; done) | rfl | (simp [upd, put, t10]; rfl)), (by first | (simp only [upd, put, Nat.reduceEqDiff, ↓reduceIte, t11]; done) | (simp [upd, put, t11]; done) | rfl | (simp [upd, put, t11]; rfl)), ttt, rfl⟩
                      | false =>
                        have g2 := rowT_at D i hiD false hq
                        have HQ := Hid.mk hq
                        have HIJ := Hid.mk hiJ
                        have hs' : ∃ s', Hid (Soon D J (i + 1) s') ∧ ((∃ hs : x.2.1 < s, s' = x.2.1) ∨ (∃ hs : ¬ x.2.1 < s, s' = s)) := by
                          refine ⟨if x.2.1 < s then x.2.1 else s, .mk (I.out.2.2.1.step hiJ hq (by rw [hx]; rfl)), ?_⟩
                          by_cases hs : x.2.1 < s
                          · exact .inl ⟨hs, if_pos hs⟩
                          · exact .inr ⟨hs, if_neg hs⟩
                        clear hx hq l2 hiJ hiD
                        obtain ⟨s', HSN, hs'⟩ := hs'
                        rcases hs' with ⟨hs, rfl⟩ | ⟨hs, rfl⟩
                        all_goals (
                          by_cases hk : x.2.1 ≤ now
                          · by_cases hb : bst < 0
                            · repeat' (first | exact tf0 ‹_› | exact tf1 ‹_› | exact False.elim ‹_› | (with_reducible refine Al.intro ?_; intro pb hpb; (try simp only [hupd_none'] at hpb); (repeat rcases hpb with ⟨⟨hpx, hpy⟩, hpb⟩)) | with_reducible refine need ?_ | ((with_reducible first | refine frk0 ?_ ?_ | refine frk1 ?_ ?_ | refine frk2 ?_ ?_ | refine frk3 ?_ ?_ | refine frk4 ?_ ?_ | refine frk5 ?_ ?_ | refine frk6 ?_ ?_ | refine frk7 ?_ ?_ | refine frk8 ?_ ?_ | refine frk9 ?_ ?_) <;> intro h <;> try (exfalso; omega)) | with_reducible refine quiet_and ?_ ?_ | with_reducible refine awp_drawnA mixed (by decide +kernel) ?_ | ((fail_if_success with_reducible refine stp ?_); simp -implicitDefEqProofs only [go_sem, Nat.reduceEqDiff, Nat.reduceAdd, Nat.reduceLT, Nat.reduceMul, Nat.reduceSub, Nat.reduceLeDiff, ↓reduceIte, reduceCtorEq, ↓String.reduceEq, String.reduceNe, Int.reduceToNat, Int.reduceLT, Int.reduceLE, Int.reduceGT, Int.reduceGE, Int.reduceEq, Int.reduceNe, Int.reduceBEq, Int.reduceBNe, Int.reduceAdd, Int.reduceSub, Int.reduceMul, Int.reduceNeg,  rowT, *]))
                              exact Again.intro ⟨L - (i + 1), by have := I.out; omega, _, Sub.refl _, i + 1, _, _, .mk ⟨rfl, by omega, HSN.out, I.out.2.2.2.first HIJ.out HQ.out (by rw [HX.out]; exact hk) hb⟩, (by first | (simp only [upd, put, Nat.reduceEqDiff, ↓reduceIte, t0]; done) | (simp [upd, put, t0]; done) | rfl | (simp [upd, put, t0]; rfl)), (by first | (simp only [upd, put, Nat.reduceEqDiff, ↓reduceIte, t1]; done) | (simp [upd, put, t1]; done) | rfl | (simp [upd, put, t1]; rfl)), (by first | (simp only [upd, put, Nat.reduceEqDiff, ↓reduceIte, t7]; done) | (simp [upd, put, t7]; done) | rfl | (simp [upd, put, t7]; rfl)), (by first | (simp only [upd, put, Nat.reduceEqDiff, ↓reduceIte, t8]; done) | (simp [upd, put, t8]; done) | rfl | (simp [upd, put, t8]; rfl)), (by first | (simp only [upd, put, Nat.reduceEqDiff, ↓reduceIte, t9]; done) | (simp [upd, put, t9]; done) | rfl | (simp [upd, put, t9]; rfl)), ttt, (by first | (simp only [upd, put, Nat.reduceEqDiff, ↓reduceIte, t11]; done) | (simp [upd, put, t11]; done) | rfl | (simp [upd, put, t11]; rfl)), ttt, rfl⟩
                            · obtain ⟨c, rfl⟩ : ∃ c : Nat, bst = (c : Int) := ⟨bst.toNat, by omega⟩
                              have hcl : c < i ∧ (J.getD c default, (c : Int)) ∈ rem D J := by
                                rcases I.out.2.2.2 with ⟨e, -⟩ | ⟨c', h1, h2, h3, -⟩
                                · omega
                                · have e : c = c' := by omega
                                  subst e; exact ⟨h1, h3⟩
                              obtain ⟨y, hy⟩ : ∃ y, J.getD c default = y := ⟨_, rfl⟩
                              have hcJ : c < J.length := by have := HIJ.out; omega
                              have ltc : c < L := by omega
                              have f0 := j_at J pre post c hcJ y hy
                              have f1 := j_len J pre post c hcJ
                              have HY := Hid.mk (And.intro hy hcJ)
                              clear hy hcJ hcl
                              repeat' (first | exact tf0 ‹_› | exact tf1 ‹_› | exact False.elim ‹_› | (with_reducible refine Al.intro ?_; intro pb hpb; (try simp only [hupd_none'] at hpb); (repeat rcases hpb with ⟨⟨hpx, hpy⟩, hpb⟩)) | with_reducible refine need ?_ | ((with_reducible first | refine frk0 ?_ ?_ | refine frk1 ?_ ?_ | refine frk2 ?_ ?_ | refine frk3 ?_ ?_ | refine frk4 ?_ ?_ | refine frk5 ?_ ?_ | refine frk6 ?_ ?_ | refine frk7 ?_ ?_ | refine frk8 ?_ ?_ | refine frk9 ?_ ?_) <;> intro h <;> try (exfalso; omega)) | with_reducible refine quiet_and ?_ ?_ | with_reducible refine awp_drawnA mixed (by decide +kernel) ?_ | ((fail_if_success with_reducible refine stp ?_); simp -implicitDefEqProofs only [go_sem, Nat.reduceEqDiff, Nat.reduceAdd, Nat.reduceLT, Nat.reduceMul, Nat.reduceSub, Nat.reduceLeDiff, ↓reduceIte, reduceCtorEq, ↓String.reduceEq, String.reduceNe, Int.reduceToNat, Int.reduceLT, Int.reduceLE, Int.reduceGT, Int.reduceGE, Int.reduceEq, Int.reduceNe, Int.reduceBEq, Int.reduceBNe, Int.reduceAdd, Int.reduceSub, Int.reduceMul, Int.reduceNeg,  rowT, *]))
                              refine CallWP.to (rahead_spec G n x y _) ?_
                              have hq2 : aheadF n x y = true ↔ LJ n (J.getD i default) (J.getD c default) := by
                                rw [HX.out, HY.out.1]
                                exact aheadF_iff (HRT.out x (by rw [← HX.out]; exact getD_mem J i HIJ.out)) (HRT.out y (by rw [← HY.out.1]; exact getD_mem J c HY.out.2)) HN.out
                              have hB := I.out.2.2.2.than HIJ.out HQ.out (by rw [HX.out]; exact hk) _ hq2
                              cases hq3 : aheadF n x y with
                              | true =>
                                rw [hq3, if_pos rfl] at hB
                                have HBB := Hid.mk hB
                                clear hB hq2
                                repeat' (first | exact tf0 ‹_› | exact tf1 ‹_› | exact False.elim ‹_› | (with_reducible refine Al.intro ?_; intro pb hpb; (try simp only [hupd_none'] at hpb); (repeat rcases hpb with ⟨⟨hpx, hpy⟩, hpb⟩)) | with_reducible refine need ?_ | ((with_reducible first | refine frk0 ?_ ?_ | refine frk1 ?_ ?_ | refine frk2 ?_ ?_ | refine frk3 ?_ ?_ | refine frk4 ?_ ?_ | refine frk5 ?_ ?_ | refine frk6 ?_ ?_ | refine frk7 ?_ ?_ | refine frk8 ?_ ?_ | refine frk9 ?_ ?_) <;> intro h <;> try (exfalso; omega)) | with_reducible refine quiet_and ?_ ?_ | with_reducible refine awp_drawnA mixed (by decide +kernel) ?_ | ((fail_if_success with_reducible refine stp ?_); simp -implicitDefEqProofs only [go_sem, Nat.reduceEqDiff, Nat.reduceAdd, Nat.reduceLT, Nat.reduceMul, Nat.reduceSub, Nat.reduceLeDiff, ↓reduceIte, reduceCtorEq, ↓String.reduceEq, String.reduceNe, Int.reduceToNat, Int.reduceLT, Int.reduceLE, Int.reduceGT, Int.reduceGE, Int.reduceEq, Int.reduceNe, Int.reduceBEq, Int.reduceBNe, Int.reduceAdd, Int.reduceSub, Int.reduceMul, Int.reduceNeg,  rowT, *]))
                                exact Again.intro ⟨L - (i + 1), by have := I.out; omega, _, Sub.refl _, i + 1, _, _, .mk ⟨rfl, by omega, HSN.out, HBB.out⟩, (by first | (simp only [upd, put, Nat.reduceEqDiff, ↓reduceIte, t0]; done) | (simp [upd, put, t0]; done) | rfl | (simp [upd, put, t0]; rfl)), (by first | (simp only [upd, put, Nat.reduceEqDiff, ↓reduceIte, t1]; done) | (simp [upd, put, t1]; done) | rfl | (simp [upd, put, t1]; rfl)), (by first | (simp only [upd, put, Nat.reduceEqDiff, ↓reduceIte, t7]; done) | (simp [upd, put, t7]; done) | rfl | (simp [upd, put, t7]; rfl)), (by first | (simp only [upd, put, Nat.reduceEqDiff, ↓reduceIte, t8]; done) | (simp [upd, put, t8]; done) | rfl | (simp [upd, put, t8]; rfl)), (by first | (simp only [upd, put, Nat.reduceEqDiff, ↓reduceIte, t9]; done) | (simp [upd, put, t9]; done) | rfl | (simp [upd, put, t9]; rfl)), ttt, (by first | (simp only [upd, put, Nat.reduceEqDiff, ↓reduceIte, t11]; done) | (simp [upd, put, t11]; done) | rfl | (simp [upd, put, t11]; rfl)), ttt, rfl⟩
                              | false =>
                                rw [hq3, if_neg (by simp)] at hB
                                have HBB := Hid.mk hB
                                clear hB hq2
                                repeat' (first | exact tf0 ‹_› | exact tf1 ‹_› | exact False.elim ‹_› | (with_reducible refine Al.intro ?_; intro pb hpb; (try simp only [hupd_none'] at hpb); (repeat rcases hpb with ⟨⟨hpx, hpy⟩, hpb⟩)) | with_reducible refine need ?_ | ((with_reducible first | refine frk0 ?_ ?_ | refine frk1 ?_ ?_ | refine frk2 ?_ ?_ | refine frk3 ?_ ?_ | refine frk4 ?_ ?_ | refine frk5 ?_ ?_ | refine frk6 ?_ ?_ | refine frk7 ?_ ?_ | refine frk8 ?_ ?_ | refine frk9 ?_ ?_) <;> intro h <;> try (exfalso; omega)) | with_reducible refine quiet_and ?_ ?_ | with_reducible refine awp_drawnA mixed (by decide +kernel) ?_ | ((fail_if_success with_reducible refine stp ?_); simp -implicitDefEqProofs only [go_sem, Nat.reduceEqDiff, Nat.reduceAdd, Nat.reduceLT, Nat.reduceMul, Nat.reduceSub, Nat.reduceLeDiff, ↓reduceIte, reduceCtorEq, ↓String.reduceEq, String.reduceNe, Int.reduceToNat, Int.reduceLT, Int.reduceLE, Int.reduceGT, Int.reduceGE, Int.reduceEq, Int.reduceNe, Int.reduceBEq, Int.reduceBNe, Int.reduceAdd, Int.reduceSub, Int.reduceMul, Int.reduceNeg,  rowT, *]))
                                exact Again.intro ⟨L - (i + 1), by have := I.out; omega, _, Sub.refl _, i + 1, _, _, .mk ⟨rfl, by omega, HSN.out, HBB.out⟩, (by first | (simp only [upd, put, Nat.reduceEqDiff, ↓reduceIte, t0]; done) | (simp [upd, put, t0]; done) | rfl | (simp [upd, put, t0]; rfl)), (by first | (simp only [upd, put, Nat.reduceEqDiff, ↓reduceIte, t1]; done) | (simp [upd, put, t1]; done) | rfl | (simp [upd, put, t1]; rfl)), (by first | (simp only [upd, put, Nat.reduceEqDiff, ↓reduceIte, t7]; done) | (simp [upd, put, t7]; done) | rfl | (simp [upd, put, t7]; rfl)), (by first | (simp only [upd, put, Nat.reduceEqDiff, ↓reduceIte, t8]; done) | (simp [upd, put, t8]; done) | rfl | (simp [upd, put, t8]; rfl)), (by first | (simp only [upd, put, Nat.reduceEqDiff, ↓reduceIte, t9]; done) | (simp [upd, put, t9]; done) | rfl | (simp [upd, put, t9]; rfl)), (by first | (simp only [upd, put, Nat.reduceEqDiff, ↓reduceIte, t10]; done) | (simp [upd, put, t10]; done) | rfl | (simp [upd, put, t10]; rfl)), (by first | (simp only [upd, put, Nat.reduceEqDiff, ↓reduceIte, t11]; done) | (simp [upd, put, t11]; done) | rfl | (simp [upd, put, t11]; rfl)), ttt, rfl⟩
                          · repeat' (first | exact tf0 ‹_› | exact tf1 ‹_› | exact False.elim ‹_› | (with_reducible refine Al.intro ?_; intro pb hpb; (try simp only [hupd_none'] at hpb); (repeat rcases hpb with ⟨⟨hpx, hpy⟩, hpb⟩)) | with_reducible refine need ?_ | ((with_reducible first | refine frk0 ?_ ?_ | refine frk1 ?_ ?_ | refine frk2 ?_ ?_ | refine frk3 ?_ ?_ | refine frk4 ?_ ?_ | refine frk5 ?_ ?_ | refine frk6 ?_ ?_ | refine frk7 ?_ ?_ | refine frk8 ?_ ?_ | refine frk9 ?_ ?_) <;> intro h <;> try (exfalso; omega)) | with_reducible refine quiet_and ?_ ?_ | with_reducible refine awp_drawnA mixed (by decide +kernel) ?_ | ((fail_if_success with_reducible refine stp ?_); simp -implicitDefEqProofs only [go_sem, Nat.reduceEqDiff, Nat.reduceAdd, Nat.reduceLT, Nat.reduceMul, Nat.reduceSub, Nat.reduceLeDiff, ↓reduceIte, reduceCtorEq, ↓String.reduceEq, String.reduceNe, Int.reduceToNat, Int.reduceLT, Int.reduceLE, Int.reduceGT, Int.reduceGE, Int.reduceEq, Int.reduceNe, Int.reduceBEq, Int.reduceBNe, Int.reduceAdd, Int.reduceSub, Int.reduceMul, Int.reduceNeg,  rowT, *]))
                            exact Again.intro ⟨L - (i + 1), by have := I.out; omega, _, Sub.refl _, i + 1, _, bst, .mk ⟨rfl, by omega, HSN.out, I.out.2.2.2.late (by rw [HX.out]; exact hk)⟩, (by first | (simp only [upd, put, Nat.reduceEqDiff, ↓reduceIte, t0]; done) | (simp [upd, put, t0]; done) | rfl | (simp [upd, put, t0]; rfl)), (by first | (simp only [upd, put, Nat.reduceEqDiff, ↓reduceIte, t1]; done) | (simp [upd, put, t1]; done) | rfl | (simp [upd, put, t1]; rfl)), (by first | (simp only [upd, put, Nat.reduceEqDiff, ↓reduceIte, t7]; done) | (simp [upd, put, t7]; done) | rfl | (simp [upd, put, t7]; rfl)), (by first | (simp only [upd, put, Nat.reduceEqDiff, ↓reduceIte, t8]; done) | (simp [upd, put, t8]; done) | rfl | (simp [upd, put, t8]; rfl)), (by first | (simp only [upd, put, Nat.reduceEqDiff, ↓reduceIte, t9]; done) | (simp [upd, put, t9]; done) | rfl | (simp [upd, put, t9]; rfl)), (by first | (simp only [upd, put, Nat.reduceEqDiff, ↓reduceIte, t10]; done) | (simp [upd, put, t10]; done) | rfl | (simp [upd, put, t10]; rfl)), (by first | (simp only [upd, put, Nat.reduceEqDiff, ↓reduceIte, t11]; done) | (simp [upd, put, t11]; done) | rfl | (simp [upd, put, t11]; rfl)), ttt, rfl⟩)
                    · have lti : ¬ (i : Int) < (L : Int) := by omega
                      repeat' (first | exact tf0 ‹_› | exact tf1 ‹_› | exact False.elim ‹_› | (with_reducible refine Al.intro ?_; intro pb hpb; (try simp only [hupd_none'] at hpb); (repeat rcases hpb with ⟨⟨hpx, hpy⟩, hpb⟩)) | with_reducible refine need ?_ | ((with_reducible first | refine frk0 ?_ ?_ | refine frk1 ?_ ?_ | refine frk2 ?_ ?_ | refine frk3 ?_ ?_ | refine frk4 ?_ ?_ | refine frk5 ?_ ?_ | refine frk6 ?_ ?_ | refine frk7 ?_ ?_ | refine frk8 ?_ ?_ | refine frk9 ?_ ?_) <;> intro h <;> try (exfalso; omega)) | with_reducible refine quiet_and ?_ ?_ | with_reducible refine awp_drawnA mixed (by decide +kernel) ?_ | ((fail_if_success with_reducible refine stp ?_); simp -implicitDefEqProofs only [go_sem, Nat.reduceEqDiff, Nat.reduceAdd, Nat.reduceLT, Nat.reduceMul, Nat.reduceSub, Nat.reduceLeDiff, ↓reduceIte, reduceCtorEq, ↓String.reduceEq, String.reduceNe, Int.reduceToNat, Int.reduceLT, Int.reduceLE, Int.reduceGT, Int.reduceGE, Int.reduceEq, Int.reduceNe, Int.reduceBEq, Int.reduceBNe, Int.reduceAdd, Int.reduceSub, Int.reduceMul, Int.reduceNeg,  *]))
                      exact Again.intro ⟨s, bst, .mk (by have h := I.out; have e : i = L := by omega
                                                         rw [← e]; exact h.2.2), (by first | (simp only [upd, put, Nat.reduceEqDiff, ↓reduceIte, t0]; done) | (simp [upd, put, t0]; done) | rfl | (simp [upd, put, t0]; rfl)), (by first | (simp only [upd, put, Nat.reduceEqDiff, ↓reduceIte, t1]; done) | (simp [upd, put, t1]; done) | rfl | (simp [upd, put, t1]; rfl)), (by first | (simp only [upd, put, Nat.reduceEqDiff, ↓reduceIte, t7]; done) | (simp [upd, put, t7]; done) | rfl | (simp [upd, put, t7]; rfl)), (by first | (simp only [upd, put, Nat.reduceEqDiff, ↓reduceIte, t8]; done) | (simp [upd, put, t8]; done) | rfl | (simp [upd, put, t8]; rfl)), (by first | (simp only [upd, put, Nat.reduceEqDiff, ↓reduceIte, t9]; done) | (simp [upd, put, t9]; done) | rfl | (simp [upd, put, t9]; rfl)), (by first | (simp only [upd, put, Nat.reduceEqDiff, ↓reduceIte, t10]; done) | (simp [upd, put, t10]; done) | rfl | (simp [upd, put, t10]; rfl)), (by first | (simp only [upd, put, Nat.reduceEqDiff, ↓reduceIte, t11]; done) | (simp [upd, put, t11]; done) | rfl | (simp [upd, put, t11]; rfl)), rfl⟩
                  · clear t0 t1 t7 t8 t9
                    rintro ts m3 ⟨s, bst, I, t0, t1, t7, t8, t9, t10, t11, hm3⟩
                    subst m3
                    have hall : ∀ u ∈ rem D J, u.2 < (L : Int) := fun u hu => by
                      obtain ⟨j, hj, rfl, -⟩ := mem_rem.1 hu
                      have := H0.out; simp only; omega
                    rcases I.out.2 with ⟨rfl, hnone⟩ | ⟨c, hcL, rfl, hcr, hct, hcb⟩
                    · have HNO := Hid.mk hnone
                      have HAL := Hid.mk hall
                      clear hnone hall
                      repeat' (first | exact tf0 ‹_› | exact tf1 ‹_› | exact False.elim ‹_› | (with_reducible refine Al.intro ?_; intro pb hpb; (try simp only [hupd_none'] at hpb); (repeat rcases hpb with ⟨⟨hpx, hpy⟩, hpb⟩)) | with_reducible refine need ?_ | ((with_reducible first | refine frk0 ?_ ?_ | refine frk1 ?_ ?_ | refine frk2 ?_ ?_ | refine frk3 ?_ ?_ | refine frk4 ?_ ?_ | refine frk5 ?_ ?_ | refine frk6 ?_ ?_ | refine frk7 ?_ ?_ | refine frk8 ?_ ?_ | refine frk9 ?_ ?_) <;> intro h <;> try (exfalso; omega)) | with_reducible refine quiet_and ?_ ?_ | with_reducible refine awp_drawnA mixed (by decide +kernel) ?_ | ((fail_if_success with_reducible refine stp ?_); simp -implicitDefEqProofs only [go_sem, Nat.reduceEqDiff, Nat.reduceAdd, Nat.reduceLT, Nat.reduceMul, Nat.reduceSub, Nat.reduceLeDiff, ↓reduceIte, reduceCtorEq, ↓String.reduceEq, String.reduceNe, Int.reduceToNat, Int.reduceLT, Int.reduceLE, Int.reduceGT, Int.reduceGE, Int.reduceEq, Int.reduceNe, Int.reduceBEq, Int.reduceBNe, Int.reduceAdd, Int.reduceSub, Int.reduceMul, Int.reduceNeg,  *]))
                      exact Again.intro ⟨2 * (rem D J).length, by
                          obtain ⟨a1, a2, a3⟩ := W.out
                          rcases a3.at_ with e | ⟨e, ⟨u, hu, hk⟩, -⟩
                          · rw [if_pos e] at a1; omega
                          · have := HNO.out u hu (HAL.out u hu); omega, _, Sub.refl _, D, vo, S, now0, s, .mk (by
                          obtain ⟨a1, a2, a3⟩ := W.out
                          have e0 : now = now0 := by
                            rcases a3.at_ with e | ⟨e, ⟨u, hu, hk⟩, -⟩
                            · exact e
                            · have := HNO.out u hu (HAL.out u hu); omega
                          obtain ⟨u, hu⟩ : ∃ u, u ∈ rem D J := by
                            cases hr : rem D J with
                            | nil =>
                              exfalso
                              have e := a3.len
                              have e2 := H0.out
                              have e3 := HLS.out
                              rw [hr] at e
                              simp only [List.length_nil] at e
                              omega
                            | cons u t => exact ⟨u, by simp⟩
                          have hsu := I.out.1.2 u hu (HAL.out u hu)
                          have hbd : ∀ u ∈ rem D J, kT u ≤ 1125899906842624 := fun u hu => by
                            obtain ⟨j, hj, rfl, -⟩ := mem_rem.1 hu
                            exact ((rightJ_iff _).1 (HRT.out _ (getD_mem J j hj))).2.1.2
                          obtain ⟨u2, hu2, hk2⟩ : ∃ u ∈ rem D J, s = kT u := by
                            rcases I.out.1.1 with e | e
                            · have := hbd u hu; omega
                            · exact e
                          have hlt2 := HNO.out u2 hu2 (HAL.out u2 hu2)
                          have hb2 := hbd u2 hu2
                          refine ⟨by rw [if_neg (by omega)]; rfl, a2, ⟨a3.dl, a3.len, a3.goes, .inr ⟨by omega, ⟨u2, hu2, hk2⟩, fun u hu => I.out.1.2 u hu (HAL.out u hu)⟩, a3.pos, ?_⟩⟩
                          have : (0 : Int) ≤ (S.length : Int) := by omega
                          omega), (by first | (simp only [upd, put, Nat.reduceEqDiff, ↓reduceIte, t0]; done) | (simp [upd, put, t0]; done) | rfl | (simp [upd, put, t0]; rfl)), (by first | (simp only [upd, put, Nat.reduceEqDiff, ↓reduceIte, t1]; done) | (simp [upd, put, t1]; done) | rfl | (simp [upd, put, t1]; rfl)), (by first | (simp only [upd, put, Nat.reduceEqDiff, ↓reduceIte, t7]; done) | (simp [upd, put, t7]; done) | rfl | (simp [upd, put, t7]; rfl)), (by first | (simp only [upd, put, Nat.reduceEqDiff, ↓reduceIte, t8]; done) | (simp [upd, put, t8]; done) | rfl | (simp [upd, put, t8]; rfl)), (by first | (simp only [upd, put, Nat.reduceEqDiff, ↓reduceIte, t11]; done) | (simp [upd, put, t11]; done) | rfl | (simp [upd, put, t11]; rfl))⟩
                    · have hcJ : c < J.length := by have := H0.out; omega
                      have hcD : c < D.length := by have := W.out.2.2.dl; omega
                      have hq : D.getD c false = false := by
                        obtain ⟨j, hj, e, hd⟩ := mem_rem.1 hcr
                        have : c = j := by have := congrArg Prod.snd e; simp only at this; omega
                        rw [this]; exact hd
                      obtain ⟨x, hx⟩ : ∃ x, J.getD c default = x := ⟨_, rfl⟩
                      have hxr := (rightJ_iff _).1 (HRT.out x (by rw [← hx]; exact getD_mem J c hcJ))
                      obtain ⟨-, g1⟩ := j_cell J pre post c hcJ x hx
                      have l1 := j_len J pre post c hcJ
                      have l2 := rowT_len D
                      have l3 : c < (D.flatMap encB).length := by omega
                      have s1 := rowT_set D c true hcD
                      have nbc : ¬ (c : Int) < 0 := by omega
                      have ltc : (c : Int) < (L : Int) := by omega
                      have hbeg : Begin (rem D J) now0 now := by
                        rcases W.out.2.2.at_ with e | e
                        · exact .inl ⟨e, _, hcr, by omega⟩
                        · exact .inr e
                      have hlow : now ≤ 1125899906842624 + (S.length : Int) * 1073741824 := W.out.2.2.low
                      have hpos : 0 ≤ now := by
                        have := W.out.2.2.pos
                        rcases W.out.2.2.at_ with e | ⟨e, -⟩ <;> omega
                      have w1 : IntKind.i64.wrap (now + x.2.2.2) = now + x.2.2.2 := by
                        have e := W.out.2.2.len
                        have e2 := H0.out
                        rw [wrap_i64 (by omega) (by omega)]
                      have hperm := rem_set hcJ W.out.2.2.dl hq
                      rw [hx] at hcr hct hcb hperm
                      have HC2 := Hid.mk (And.intro hcr (And.intro hct (And.intro hcb (And.intro hperm (And.intro hbeg (And.intro hxr (And.intro hlow hpos)))))))
                      have mem1 : RMem m (hupd m2 pd (rowT (D.set c true) L)) pd L (D.set c true) vo S := by
                        have a := W.out.2.1
                        exact ⟨by rw [hupd_at, if_pos rfl], a.out.keep fun q hq => hupd_ne (fun e => a.no (by rw [hq, e])), fun q y hq => by rw [hupd_ne (fun e => by rw [e, a.fd] at hq; cases hq)]; exact a.sub q y hq, a.fd, a.fo, a.no⟩
                      have M1 := Hid.mk mem1
                      clear hx hq hcD hcJ hcr hct hcb hperm hbeg hxr hlow hpos mem1 hall l2
                      repeat' (first | exact tf0 ‹_› | exact tf1 ‹_› | exact False.elim ‹_› | (with_reducible refine Al.intro ?_; intro pb hpb; (try simp only [hupd_none'] at hpb); (repeat rcases hpb with ⟨⟨hpx, hpy⟩, hpb⟩)) | with_reducible refine need ?_ | ((with_reducible first | refine frk0 ?_ ?_ | refine frk1 ?_ ?_ | refine frk2 ?_ ?_ | refine frk3 ?_ ?_ | refine frk4 ?_ ?_ | refine frk5 ?_ ?_ | refine frk6 ?_ ?_ | refine frk7 ?_ ?_ | refine frk8 ?_ ?_ | refine frk9 ?_ ?_) <;> intro h <;> try (exfalso; omega)) | with_reducible refine quiet_and ?_ ?_ | with_reducible refine awp_drawnA mixed (by decide +kernel) ?_ | ((fail_if_success with_reducible refine stp ?_); simp -implicitDefEqProofs only [go_sem, Nat.reduceEqDiff, Nat.reduceAdd, Nat.reduceLT, Nat.reduceMul, Nat.reduceSub, Nat.reduceLeDiff, ↓reduceIte, reduceCtorEq, ↓String.reduceEq, String.reduceNe, Int.reduceToNat, Int.reduceLT, Int.reduceLE, Int.reduceGT, Int.reduceGE, Int.reduceEq, Int.reduceNe, Int.reduceBEq, Int.reduceBNe, Int.reduceAdd, Int.reduceSub, Int.reduceMul, Int.reduceNeg,  rowT, *]))
                      refine app1 (enc := encSt) (sz := 3) (C := S) (x := ((x, (c : Int)), now)) Try.underlying28 tk_39 eb_39 zl_39 (by decide) (by rw [Try.underlying28]; rfl) (by unfold isInt; rw [Try.underlying28]) encSt_len rfl ⟨3, by rw [hupd_at, if_pos rfl]⟩ (M1.out.out.fresh (by rw [hupd_ne (by assumption)]; assumption)) (by have := W.out.2.2.len; have := H0.out; omega) (fun vo2 m6 h1 h2 => ?_)
                      have mem2 := (M1.out.into (Sub.fresh (Sub.refl _) (by rw [hupd_ne hpx]; exact hpb))).sent h2 h1
                      have hrow6 := mem2.sub _ _ HR.out
                      have M2 := Hid.mk mem2
                      clear h1 h2 mem2 M1 hrow hdr
                      repeat' (first | exact tf0 ‹_› | exact tf1 ‹_› | exact False.elim ‹_› | (with_reducible refine Al.intro ?_; intro pb hpb; (try simp only [hupd_none'] at hpb); (repeat rcases hpb with ⟨⟨hpx, hpy⟩, hpb⟩)) | with_reducible refine need ?_ | ((with_reducible first | refine frk0 ?_ ?_ | refine frk1 ?_ ?_ | refine frk2 ?_ ?_ | refine frk3 ?_ ?_ | refine frk4 ?_ ?_ | refine frk5 ?_ ?_ | refine frk6 ?_ ?_ | refine frk7 ?_ ?_ | refine frk8 ?_ ?_ | refine frk9 ?_ ?_) <;> intro h <;> try (exfalso; omega)) | with_reducible refine quiet_and ?_ ?_ | with_reducible refine awp_drawnA mixed (by decide +kernel) ?_ | ((fail_if_success with_reducible refine stp ?_); simp -implicitDefEqProofs only [go_sem, Nat.reduceEqDiff, Nat.reduceAdd, Nat.reduceLT, Nat.reduceMul, Nat.reduceSub, Nat.reduceLeDiff, ↓reduceIte, reduceCtorEq, ↓String.reduceEq, String.reduceNe, Int.reduceToNat, Int.reduceLT, Int.reduceLE, Int.reduceGT, Int.reduceGE, Int.reduceEq, Int.reduceNe, Int.reduceBEq, Int.reduceBNe, Int.reduceAdd, Int.reduceSub, Int.reduceMul, Int.reduceNeg,  *]))
                      exact Again.intro ⟨2 * (rem (D.set c true) J).length + 1, by
                          have a1 := W.out.1
                          have a2 := HC2.out.2.2.2.1.length_eq
                          simp only [List.length_cons] at a2
                          omega, _, Sub.refl _, D.set c true, vo2, S ++ [((x, (c : Int)), now)], now + x.2.2.2, now + x.2.2.2, .mk (by
                          obtain ⟨a1, a2, a3⟩ := W.out
                          obtain ⟨c1, c2, c3, c4, c5, c6, c7, c8⟩ := HC2.out
                          have e1 := c4.length_eq
                          simp only [List.length_cons] at e1
                          refine ⟨by rw [if_pos rfl], M2.out, ⟨by rw [List.length_set]; exact a3.dl, ?_, ?_, .inl rfl, by omega, ?_⟩⟩
                          · have := a3.len
                            rw [List.length_append]; simp only [List.length_cons, List.length_nil]; omega
                          · intro S' hS'
                            rw [List.append_assoc]
                            refine a3.goes _ (.cons (R' := rem (D.set c true) J) c4 c5 c2 (fun u hu hk => c3 u hu ?_ hk) hS')
                            obtain ⟨j, hj, rfl, -⟩ := mem_rem.1 hu
                            have := H0.out; simp only; omega
                          · rw [List.length_append]; simp only [List.length_cons, List.length_nil]; omega), (by first | (simp only [upd, put, Nat.reduceEqDiff, ↓reduceIte, t0]; done) | (simp [upd, put, t0]; done) | rfl | (simp [upd, put, t0]; rfl)), (by first | (simp only [upd, put, Nat.reduceEqDiff, ↓reduceIte, t1]; done) | (simp [upd, put, t1]; done) | rfl | (simp [upd, put, t1]; rfl)), (by first | (simp only [upd, put, Nat.reduceEqDiff, ↓reduceIte, t7]; done) | (simp [upd, put, t7]; done) | rfl | (simp [upd, put, t7]; rfl)), ttt, ttt⟩)
              · have lt : ¬ (ls : Int) < (L : Int) := by omega
                rcases hvo with ⟨hvo, hl0⟩ | ⟨bo, oo, co, hvo⟩
                all_goals (
                  have t8' := t8
                  rw [hvo] at t8'
                  have HV := Hid.mk hvo
                  clear hvo
                  (try subst hl0)
                  have T8 := Hid.mk t8
                  clear t8
                  repeat' (first | exact tf0 ‹_› | exact tf1 ‹_› | exact False.elim ‹_› | (with_reducible refine Al.intro ?_; intro pb hpb; (try simp only [hupd_none'] at hpb); (repeat rcases hpb with ⟨⟨hpx, hpy⟩, hpb⟩)) | with_reducible refine need ?_ | ((with_reducible first | refine frk0 ?_ ?_ | refine frk1 ?_ ?_ | refine frk2 ?_ ?_ | refine frk3 ?_ ?_ | refine frk4 ?_ ?_ | refine frk5 ?_ ?_ | refine frk6 ?_ ?_ | refine frk7 ?_ ?_ | refine frk8 ?_ ?_ | refine frk9 ?_ ?_) <;> intro h <;> try (exfalso; omega)) | with_reducible refine quiet_and ?_ ?_ | with_reducible refine awp_drawnA mixed (by decide +kernel) ?_ | ((fail_if_success with_reducible refine stp ?_); simp -implicitDefEqProofs only [go_sem, Nat.reduceEqDiff, Nat.reduceAdd, Nat.reduceLT, Nat.reduceMul, Nat.reduceSub, Nat.reduceLeDiff, ↓reduceIte, reduceCtorEq, ↓String.reduceEq, String.reduceNe, Int.reduceToNat, Int.reduceLT, Int.reduceLE, Int.reduceGT, Int.reduceGE, Int.reduceEq, Int.reduceNe, Int.reduceBEq, Int.reduceBNe, Int.reduceAdd, Int.reduceSub, Int.reduceMul, Int.reduceNeg,  *]))
                  exact Again.intro ⟨S, vo, .mk (by
                    have e := W.out.2.2.len
                    have e2 := H0.out
                    have e3 := HLS.out
                    have hr : rem D J = [] := List.eq_nil_of_length_eq_zero (by omega)
                    have := W.out.2.2.goes [] (by rw [hr]; exact .nil _)
                    rw [List.append_nil] at this
                    exact ⟨this, W.out.2.1.out, W.out.2.1.sub, W.out.2.1.fo⟩), by have t8 := T8.out; exact ((by first | (simp only [upd, put, Nat.reduceEqDiff, ↓reduceIte, t8]; done) | (simp [upd, put, t8]; done) | rfl | (simp [upd, put, t8]; rfl)))⟩)
            · rintro ts m2 ⟨S, vo, HF, t8⟩
              repeat' (first | exact tf0 ‹_› | exact tf1 ‹_› | exact False.elim ‹_› | (with_reducible refine Al.intro ?_; intro pb hpb; (try simp only [hupd_none'] at hpb); (repeat rcases hpb with ⟨⟨hpx, hpy⟩, hpb⟩)) | with_reducible refine need ?_ | ((with_reducible first | refine frk0 ?_ ?_ | refine frk1 ?_ ?_ | refine frk2 ?_ ?_ | refine frk3 ?_ ?_ | refine frk4 ?_ ?_ | refine frk5 ?_ ?_ | refine frk6 ?_ ?_ | refine frk7 ?_ ?_ | refine frk8 ?_ ?_ | refine frk9 ?_ ?_) <;> intro h <;> try (exfalso; omega)) | with_reducible refine quiet_and ?_ ?_ | with_reducible refine awp_drawnA mixed (by decide +kernel) ?_ | ((fail_if_success with_reducible refine stp ?_); simp -implicitDefEqProofs only [go_sem, Nat.reduceEqDiff, Nat.reduceAdd, Nat.reduceLT, Nat.reduceMul, Nat.reduceSub, Nat.reduceLeDiff, ↓reduceIte, reduceCtorEq, ↓String.reduceEq, String.reduceNe, Int.reduceToNat, Int.reduceLT, Int.reduceLE, Int.reduceGT, Int.reduceGE, Int.reduceEq, Int.reduceNe, Int.reduceBEq, Int.reduceBNe, Int.reduceAdd, Int.reduceSub, Int.reduceMul, Int.reduceNeg,  *]))
              refine ⟨_, Sub.refl _, ?_⟩
              (try rw [t8])
              obtain ⟨h1, h2, h3, h4⟩ := HF.out
              exact HK.out HC.out S vo _ h1 h2 h3 h4
        · refine callWP_body Try.func10 rfl (N := 115) rfl (rs := [.tmp 4, .tmp 5]) rfl en_10 (of_decide_eq_true rfl) ?_
          repeat' (first | exact tf0 ‹_› | exact tf1 ‹_› | exact False.elim ‹_› | (with_reducible refine Al.intro ?_; intro pb hpb; (try simp only [hupd_none'] at hpb); (repeat rcases hpb with ⟨⟨hpx, hpy⟩, hpb⟩)) | with_reducible refine need ?_ | ((with_reducible first | refine frk0 ?_ ?_ | refine frk1 ?_ ?_ | refine frk2 ?_ ?_ | refine frk3 ?_ ?_ | refine frk4 ?_ ?_ | refine frk5 ?_ ?_ | refine frk6 ?_ ?_ | refine frk7 ?_ ?_ | refine frk8 ?_ ?_ | refine frk9 ?_ ?_) <;> intro h <;> try (exfalso; omega)) | with_reducible refine quiet_and ?_ ?_ | with_reducible refine awp_drawnA mixed (by decide +kernel) ?_ | ((fail_if_success with_reducible refine stp ?_); simp -implicitDefEqProofs only [go_sem, Nat.reduceEqDiff, Nat.reduceAdd, Nat.reduceLT, Nat.reduceMul, Nat.reduceSub, Nat.reduceLeDiff, ↓reduceIte, reduceCtorEq, ↓String.reduceEq, String.reduceNe, Int.reduceToNat, Int.reduceLT, Int.reduceLE, Int.reduceGT, Int.reduceGE, Int.reduceEq, Int.reduceNe, Int.reduceBEq, Int.reduceBNe, Int.reduceAdd, Int.reduceSub, Int.reduceMul, Int.reduceNeg,  *]))
          refine awp_loopP 0 (fun ts m' => Hid (∀ j ∈ J, rightJ j = true) ∧ ts 0 = .list 4 (J.map encJ) ∧ ts 1 = .int .i64 n ∧ m' = m)
            (fun k ts m' => ∃ i : Nat, Hid (k = L - i ∧ i ≤ L ∧ ∀ j ∈ J.take i, rightJ j = true) ∧ ts 0 = .list 4 (J.map encJ) ∧ ts 1 = .int .i64 n ∧ ts 6 = .int .i64 (i : Nat) ∧ m' = m) L
            ⟨0, .mk ⟨rfl, Nat.zero_le _, by simp⟩, ttt, ttt, ttt, rfl⟩ ?_ ?_
          · rintro k ts m1 ⟨i, H, t0, t1, t6, hm1⟩
            subst m1
            by_cases hi : i < L
            · have lt : (i : Int) < (L : Int) := by omega
              have hiJ : i < J.length := by have := H0.out; omega
              obtain ⟨x, hx⟩ : ∃ x, J.getD i default = x := ⟨_, rfl⟩
              have g1 := lst_at J i hiJ x hx
              have w1 : IntKind.i64.wrap ((i : Int) + 1) = ((i + 1 : Nat) : Int) := by rw [wrap_i64 (by omega) (by omega)]; omega
              have hxm : x ∈ J := by rw [← hx]; exact getD_mem J i hiJ
              have hJt : J.take (i + 1) = J.take i ++ [x] := by rw [← hx, List.take_add_one]; simp [List.getD_eq_getElem?_getD, hiJ]
              have HX := Hid.mk (And.intro hxm hJt)
              clear hx hxm hJt hiJ
              repeat' (first | exact tf0 ‹_› | exact tf1 ‹_› | exact False.elim ‹_› | (with_reducible refine Al.intro ?_; intro pb hpb; (try simp only [hupd_none'] at hpb); (repeat rcases hpb with ⟨⟨hpx, hpy⟩, hpb⟩)) | with_reducible refine need ?_ | ((with_reducible first | refine frk0 ?_ ?_ | refine frk1 ?_ ?_ | refine frk2 ?_ ?_ | refine frk3 ?_ ?_ | refine frk4 ?_ ?_ | refine frk5 ?_ ?_ | refine frk6 ?_ ?_ | refine frk7 ?_ ?_ | refine frk8 ?_ ?_ | refine frk9 ?_ ?_) <;> intro h <;> try (exfalso; omega)) | with_reducible refine quiet_and ?_ ?_ | with_reducible refine awp_drawnA mixed (by decide +kernel) ?_ | ((fail_if_success with_reducible refine stp ?_); simp -implicitDefEqProofs only [go_sem, Nat.reduceEqDiff, Nat.reduceAdd, Nat.reduceLT, Nat.reduceMul, Nat.reduceSub, Nat.reduceLeDiff, ↓reduceIte, reduceCtorEq, ↓String.reduceEq, String.reduceNe, Int.reduceToNat, Int.reduceLT, Int.reduceLE, Int.reduceGT, Int.reduceGE, Int.reduceEq, Int.reduceNe, Int.reduceBEq, Int.reduceBNe, Int.reduceAdd, Int.reduceSub, Int.reduceMul, Int.reduceNeg,  *]))
              refine CallWP.to (rright_spec G x _) ?_
              by_cases hr : rightJ x = true
              · have hr' : (!rightJ x) = false := by rw [hr]; rfl
                repeat' (first | exact tf0 ‹_› | exact tf1 ‹_› | exact False.elim ‹_› | (with_reducible refine Al.intro ?_; intro pb hpb; (try simp only [hupd_none'] at hpb); (repeat rcases hpb with ⟨⟨hpx, hpy⟩, hpb⟩)) | with_reducible refine need ?_ | ((with_reducible first | refine frk0 ?_ ?_ | refine frk1 ?_ ?_ | refine frk2 ?_ ?_ | refine frk3 ?_ ?_ | refine frk4 ?_ ?_ | refine frk5 ?_ ?_ | refine frk6 ?_ ?_ | refine frk7 ?_ ?_ | refine frk8 ?_ ?_ | refine frk9 ?_ ?_) <;> intro h <;> try (exfalso; omega)) | with_reducible refine quiet_and ?_ ?_ | with_reducible refine awp_drawnA mixed (by decide +kernel) ?_ | ((fail_if_success with_reducible refine stp ?_); simp -implicitDefEqProofs only [go_sem, Nat.reduceEqDiff, Nat.reduceAdd, Nat.reduceLT, Nat.reduceMul, Nat.reduceSub, Nat.reduceLeDiff, ↓reduceIte, reduceCtorEq, ↓String.reduceEq, String.reduceNe, Int.reduceToNat, Int.reduceLT, Int.reduceLE, Int.reduceGT, Int.reduceGE, Int.reduceEq, Int.reduceNe, Int.reduceBEq, Int.reduceBNe, Int.reduceAdd, Int.reduceSub, Int.reduceMul, Int.reduceNeg,  *]))
                exact Again.intro ⟨L - (i + 1), by have := H.out; omega, _, Sub.refl _, i + 1, .mk ⟨rfl, by omega, fun j hj => by
                  rw [HX.out.2] at hj
                  rcases List.mem_append.1 hj with hj | hj
                  · exact H.out.2.2 j hj
                  · rw [List.mem_singleton.1 hj]; exact hr⟩, (by first | (simp only [upd, put, Nat.reduceEqDiff, ↓reduceIte, t0]; done) | (simp [upd, put, t0]; done) | rfl | (simp [upd, put, t0]; rfl)), (by first | (simp only [upd, put, Nat.reduceEqDiff, ↓reduceIte, t1]; done) | (simp [upd, put, t1]; done) | rfl | (simp [upd, put, t1]; rfl)), ttt, rfl⟩
              · have hr2 : rightJ x = false := by simpa using hr
                have hr' : (!rightJ x) = true := by rw [hr2]; rfl
                have hc : checkF J n = 10 := by
                  unfold checkF
                  rw [if_neg (by simpa using HN.out), if_neg (by have := H0.out; omega), if_pos (by rw [List.any_eq_true]; exact ⟨x, HX.out.1, hr'⟩)]
                have HC := Hid.mk hc
                clear hc
                repeat' (first | exact tf0 ‹_› | exact tf1 ‹_› | exact False.elim ‹_› | (with_reducible refine Al.intro ?_; intro pb hpb; (try simp only [hupd_none'] at hpb); (repeat rcases hpb with ⟨⟨hpx, hpy⟩, hpb⟩)) | with_reducible refine need ?_ | ((with_reducible first | refine frk0 ?_ ?_ | refine frk1 ?_ ?_ | refine frk2 ?_ ?_ | refine frk3 ?_ ?_ | refine frk4 ?_ ?_ | refine frk5 ?_ ?_ | refine frk6 ?_ ?_ | refine frk7 ?_ ?_ | refine frk8 ?_ ?_ | refine frk9 ?_ ?_) <;> intro h <;> try (exfalso; omega)) | with_reducible refine quiet_and ?_ ?_ | with_reducible refine awp_drawnA mixed (by decide +kernel) ?_ | ((fail_if_success with_reducible refine stp ?_); simp -implicitDefEqProofs only [go_sem, Nat.reduceEqDiff, Nat.reduceAdd, Nat.reduceLT, Nat.reduceMul, Nat.reduceSub, Nat.reduceLeDiff, ↓reduceIte, reduceCtorEq, ↓String.reduceEq, String.reduceNe, Int.reduceToNat, Int.reduceLT, Int.reduceLE, Int.reduceGT, Int.reduceGE, Int.reduceEq, Int.reduceNe, Int.reduceBEq, Int.reduceBNe, Int.reduceAdd, Int.reduceSub, Int.reduceMul, Int.reduceNeg,  *]))
                exact ⟨_, Sub.refl _, by have := HB.out (by rw [HC.out]; decide); rwa [HC.out] at this⟩
            · have lt : ¬ (i : Int) < (L : Int) := by omega
              repeat' (first | exact tf0 ‹_› | exact tf1 ‹_› | exact False.elim ‹_› | (with_reducible refine Al.intro ?_; intro pb hpb; (try simp only [hupd_none'] at hpb); (repeat rcases hpb with ⟨⟨hpx, hpy⟩, hpb⟩)) | with_reducible refine need ?_ | ((with_reducible first | refine frk0 ?_ ?_ | refine frk1 ?_ ?_ | refine frk2 ?_ ?_ | refine frk3 ?_ ?_ | refine frk4 ?_ ?_ | refine frk5 ?_ ?_ | refine frk6 ?_ ?_ | refine frk7 ?_ ?_ | refine frk8 ?_ ?_ | refine frk9 ?_ ?_) <;> intro h <;> try (exfalso; omega)) | with_reducible refine quiet_and ?_ ?_ | with_reducible refine awp_drawnA mixed (by decide +kernel) ?_ | ((fail_if_success with_reducible refine stp ?_); simp -implicitDefEqProofs only [go_sem, Nat.reduceEqDiff, Nat.reduceAdd, Nat.reduceLT, Nat.reduceMul, Nat.reduceSub, Nat.reduceLeDiff, ↓reduceIte, reduceCtorEq, ↓String.reduceEq, String.reduceNe, Int.reduceToNat, Int.reduceLT, Int.reduceLE, Int.reduceGT, Int.reduceGE, Int.reduceEq, Int.reduceNe, Int.reduceBEq, Int.reduceBNe, Int.reduceAdd, Int.reduceSub, Int.reduceMul, Int.reduceNeg,  *]))
              exact Again.intro ⟨.mk fun j hj => H.out.2.2 j (by rw [List.take_of_length_le (by have := H0.out; omega)]; exact hj), (by first | (simp only [upd, put, Nat.reduceEqDiff, ↓reduceIte, t0]; done) | (simp [upd, put, t0]; done) | rfl | (simp [upd, put, t0]; rfl)), (by first | (simp only [upd, put, Nat.reduceEqDiff, ↓reduceIte, t1]; done) | (simp [upd, put, t1]; done) | rfl | (simp [upd, put, t1]; rfl)), rfl⟩
          · rintro ts m1 ⟨H, t0, t1, hm1⟩
            subst m1
            have HC : Hid (checkF J n = 0) := .mk (by
              unfold checkF
              rw [if_neg (by simpa using HN.out), if_neg (by have := H0.out; omega), if_neg (by
                simp only [List.any_eq_true, Bool.not_eq_true', not_exists, not_and, Bool.not_eq_false]
                exact H.out)])
            repeat' (first | exact tf0 ‹_› | exact tf1 ‹_› | exact False.elim ‹_› | (with_reducible refine Al.intro ?_; intro pb hpb; (try simp only [hupd_none'] at hpb); (repeat rcases hpb with ⟨⟨hpx, hpy⟩, hpb⟩)) | with_reducible refine need ?_ | ((with_reducible first | refine frk0 ?_ ?_ | refine frk1 ?_ ?_ | refine frk2 ?_ ?_ | refine frk3 ?_ ?_ | refine frk4 ?_ ?_ | refine frk5 ?_ ?_ | refine frk6 ?_ ?_ | refine frk7 ?_ ?_ | refine frk8 ?_ ?_ | refine frk9 ?_ ?_) <;> intro h <;> try (exfalso; omega)) | with_reducible refine quiet_and ?_ ?_ | with_reducible refine awp_drawnA mixed (by decide +kernel) ?_ | ((fail_if_success with_reducible refine stp ?_); simp -implicitDefEqProofs only [go_sem, Nat.reduceEqDiff, Nat.reduceAdd, Nat.reduceLT, Nat.reduceMul, Nat.reduceSub, Nat.reduceLeDiff, ↓reduceIte, reduceCtorEq, ↓String.reduceEq, String.reduceNe, Int.reduceToNat, Int.reduceLT, Int.reduceLE, Int.reduceGT, Int.reduceGE, Int.reduceEq, Int.reduceNe, Int.reduceBEq, Int.reduceBNe, Int.reduceAdd, Int.reduceSub, Int.reduceMul, Int.reduceNeg,  *]))
            have HP := Hid.mk hpb
            obtain ⟨pd, epd⟩ : ∃ pd, pd = pb := ⟨_, rfl⟩
            rw [rowT_rep]
            clear hpb
            subst epd
            refine awp_loopP 2 (fun ts m2 => ∃ (S : List (Wt × Int)) (vo : AVal), Hid (Sends n (idxJ J) 0 S ∧ SlM encSt 3 S vo m2 ∧ Sub m m2 ∧ (∀ c, bOf vo = some c → m c = none)) ∧ ts 8 = vo)
              (fun k ts m2 => ∃ (D : List Bool) (vo : AVal) (S : List (Wt × Int)) (now0 now : Int), Hid (k = 2 * (rem D J).length + (if now = now0 then 1 else 0) ∧ RMem m m2 pd L D vo S ∧ RWay n J D S now0 now) ∧ ts 0 = .list 4 (J.map encJ) ∧ ts 1 = .int .i64 n ∧ ts 7 = .slice pd 0 L L ∧ ts 8 = vo ∧ ts 9 = .int .i64 now) (2 * L + 1)
              ⟨List.replicate L false, .nils, [], 0, 0, .mk ⟨by rw [rem_start, idxJ_len, if_pos rfl, H0.out], ⟨by rw [hupd_at, if_pos rfl], .inl ⟨rfl, rfl⟩, Sub.fresh (Sub.refl _) HP.out, HP.out, by simp [bOf], by simp [bOf]⟩,
                ⟨by rw [List.length_replicate, H0.out], by rw [rem_start, idxJ_len]; simp, by intro S' h; rw [rem_start] at h; exact h, .inl rfl, Int.le_refl _, by simp⟩⟩, (by first | (simp only [upd, put, Nat.reduceEqDiff, ↓reduceIte, t0]; done) | (simp [upd, put, t0]; done) | rfl | (simp [upd, put, t0]; rfl)), (by first | (simp only [upd, put, Nat.reduceEqDiff, ↓reduceIte, t1]; done) | (simp [upd, put, t1]; done) | rfl | (simp [upd, put, t1]; rfl)), ttt, ttt, ttt⟩ ?_ ?_
            · have HRT := H
              clear t0 t1 H
              rintro k ts m2 ⟨D, vo, S, now0, now, W, t0, t1, t7, t8, t9⟩
              have hdr := W.out.2.1.row
              have hvo : (vo = .nils ∧ S.length = 0) ∨ ∃ bo oo co, vo = .slice bo oo S.length co := by
                rcases W.out.2.1.out.slv with ⟨h1, h2⟩ | h
                · exact .inl ⟨h1, by rw [h2]; rfl⟩
                · exact .inr h
              have hSL : S.length ≤ L := by have := W.out.2.2.len; have := H0.out; omega
              obtain ⟨ls, hls⟩ : ∃ ls, ls = S.length := ⟨_, rfl⟩
              rw [← hls] at hvo hSL
              have HLS := Hid.mk hls
              clear hls
              by_cases hlt : ls < L
              · have lt : (ls : Int) < (L : Int) := by omega
                have lt0 : (0 : Int) < (L : Int) := by omega
                rcases hvo with ⟨hvo, hl0⟩ | ⟨bo, oo, co, hvo⟩
                all_goals (
                  have t8' := t8
                  rw [hvo] at t8'
                  have HV := Hid.mk hvo
                  clear hvo
                  (try subst hl0)
                  have T8 := Hid.mk t8
                  clear t8
                  repeat' (first | exact tf0 ‹_› | exact tf1 ‹_› | exact False.elim ‹_› | (with_reducible refine Al.intro ?_; intro pb hpb; (try simp only [hupd_none'] at hpb); (repeat rcases hpb with ⟨⟨hpx, hpy⟩, hpb⟩)) | with_reducible refine need ?_ | ((with_reducible first | refine frk0 ?_ ?_ | refine frk1 ?_ ?_ | refine frk2 ?_ ?_ | refine frk3 ?_ ?_ | refine frk4 ?_ ?_ | refine frk5 ?_ ?_ | refine frk6 ?_ ?_ | refine frk7 ?_ ?_ | refine frk8 ?_ ?_ | refine frk9 ?_ ?_) <;> intro h <;> try (exfalso; omega)) | with_reducible refine quiet_and ?_ ?_ | with_reducible refine awp_drawnA mixed (by decide +kernel) ?_ | ((fail_if_success with_reducible refine stp ?_); simp -implicitDefEqProofs only [go_sem, Nat.reduceEqDiff, Nat.reduceAdd, Nat.reduceLT, Nat.reduceMul, Nat.reduceSub, Nat.reduceLeDiff, ↓reduceIte, reduceCtorEq, ↓String.reduceEq, String.reduceNe, Int.reduceToNat, Int.reduceLT, Int.reduceLE, Int.reduceGT, Int.reduceGE, Int.reduceEq, Int.reduceNe, Int.reduceBEq, Int.reduceBNe, Int.reduceAdd, Int.reduceSub, Int.reduceMul, Int.reduceNeg,  *]))
                  have t8 := T8.out
                  clear t8'
                  refine awp_loopP 4 (fun ts m3 => ∃ (s bst : Int), Hid (Soon D J L s ∧ Best n D J now L bst) ∧ ts 0 = .list 4 (J.map encJ) ∧ ts 1 = .int .i64 n ∧ ts 7 = .slice pd 0 L L ∧ ts 8 = vo ∧ ts 9 = .int .i64 now ∧ ts 10 = .int .i64 bst ∧ ts 11 = .int .i64 s ∧ m3 = m2)
                    (fun k3 ts m3 => ∃ (i : Nat) (s bst : Int), Hid (k3 = L - i ∧ i ≤ L ∧ Soon D J i s ∧ Best n D J now i bst) ∧ ts 0 = .list 4 (J.map encJ) ∧ ts 1 = .int .i64 n ∧ ts 7 = .slice pd 0 L L ∧ ts 8 = vo ∧ ts 9 = .int .i64 now ∧ ts 10 = .int .i64 bst ∧ ts 11 = .int .i64 s ∧ ts 12 = .int .i64 (i : Nat) ∧ m3 = m2) L
                    ⟨0, 1152921504606846976, -1, .mk ⟨rfl, Nat.zero_le _, ⟨.inl rfl, fun u hu h => absurd h (by obtain ⟨j, _, rfl, _⟩ := mem_rem.1 hu; simp only; omega)⟩, .inl ⟨rfl, fun u hu h => absurd h (by obtain ⟨j, _, rfl, _⟩ := mem_rem.1 hu; simp only; omega)⟩⟩, (by first | (simp only [upd, put, Nat.reduceEqDiff, ↓reduceIte, t0]; done) | (simp [upd, put, t0]; done) | rfl | (simp [upd, put, t0]; rfl)), (by first | (simp only [upd, put, Nat.reduceEqDiff, ↓reduceIte, t1]; done) | (simp [upd, put, t1]; done) | rfl | (simp [upd, put, t1]; rfl)), (by first | (simp only [upd, put, Nat.reduceEqDiff, ↓reduceIte, t7]; done) | (simp [upd, put, t7]; done) | rfl | (simp [upd, put, t7]; rfl)), (by first | (simp only [upd, put, Nat.reduceEqDiff, ↓reduceIte, t8]; done) | (simp [upd, put, t8]; done) | rfl | (simp [upd, put, t8]; rfl)), (by first | (simp only [upd, put, Nat.reduceEqDiff, ↓reduceIte, t9]; done) | (simp [upd, put, t9]; done) | rfl | (simp [upd, put, t9]; rfl)), ttt, ttt, ttt, rfl⟩ ?_ ?_
                  · clear t0 t1 t7 t8 t9
                    rintro k3 ts m3 ⟨i, s, bst, I, t0, t1, t7, t8, t9, t10, t11, t12, hm3⟩
                    subst m3
                    by_cases hi : i < L
                    · have lti : (i : Int) < (L : Int) := by omega
                      have hiJ : i < J.length := by have := H0.out; omega
                      have hiD : i < D.length := by have := W.out.2.2.dl; omega
                      obtain ⟨x, hx⟩ : ∃ x, J.getD i default = x := ⟨_, rfl⟩
                      have g0 := lst_at J i hiJ x hx
                      have w1 : IntKind.i64.wrap ((i : Int) + 1) = ((i + 1 : Nat) : Int) := by rw [wrap_i64 (by omega) (by omega)]; omega
                      have l2 := rowT_len D
                      have l3 : i < (D.flatMap encB).length := by omega
                      have HX := Hid.mk hx
                      cases hq : D.getD i false with
                      | true =>
                        have g2 := rowT_at D i hiD true hq
                        have HQ := Hid.mk hq
                        clear hx hq l2 hiJ hiD
                        repeat' (first | exact tf0 ‹_› | exact tf1 ‹_› | exact False.elim ‹_› | (with_reducible refine Al.intro ?_; intro pb hpb; (try simp only [hupd_none'] at hpb); (repeat rcases hpb with ⟨⟨hpx, hpy⟩, hpb⟩)) | with_reducible refine need ?_ | ((with_reducible first | refine frk0 ?_ ?_ | refine frk1 ?_ ?_ | refine frk2 ?_ ?_ | refine frk3 ?_ ?_ | refine frk4 ?_ ?_ | refine frk5 ?_ ?_ | refine frk6 ?_ ?_ | refine frk7 ?_ ?_ | refine frk8 ?_ ?_ | refine frk9 ?_ ?_) <;> intro h <;> try (exfalso; omega)) | with_reducible refine quiet_and ?_ ?_ | with_reducible refine awp_drawnA mixed (by decide +kernel) ?_ | ((fail_if_success with_reducible refine stp ?_); simp -implicitDefEqProofs only [go_sem, Nat.reduceEqDiff, Nat.reduceAdd, Nat.reduceLT, Nat.reduceMul, Nat.reduceSub, Nat.reduceLeDiff, ↓reduceIte, reduceCtorEq, ↓String.reduceEq, String.reduceNe, Int.reduceToNat, Int.reduceLT, Int.reduceLE, Int.reduceGT, Int.reduceGE, Int.reduceEq, Int.reduceNe, Int.reduceBEq, Int.reduceBNe, Int.reduceAdd, Int.reduceSub, Int.reduceMul, Int.reduceNeg,  rowT, *]))
                        exact Again.intro ⟨L - (i + 1), by have := I.out; omega, _, Sub.refl _, i + 1, s, bst, .mk ⟨rfl, by omega, I.out.2.2.1.skip HQ.out, I.out.2.2.2.skip HQ.out⟩, (by first | (simp only [upd, put, Nat.reduceEqDiff, ↓reduceIte, t0]; done) | (simp [upd, put, t0]; done) | rfl | (simp [upd, put, t0]; rfl)), (by first | (simp only [upd, put, Nat.reduceEqDiff, ↓reduceIte, t1]; done) | (simp [upd, put, t1]; done) | rfl | (simp [upd, put, t1]; rfl)), (by first | (simp only [upd, put, Nat.reduceEqDiff, ↓reduceIte, t7]; done) | (simp [upd, put, t7]; done) | rfl | (simp [upd, put, t7]; rfl)), (by first | (simp only [upd, put, Nat.reduceEqDiff, ↓reduceIte, t8]; done) | (simp [upd, put, t8]; done) | rfl | (simp [upd, put, t8]; rfl)), (by first | (simp only [upd, put, Nat.reduceEqDiff, ↓reduceIte, t9]; done) | (simp [upd, put, t9]; done) | rfl | (simp [upd, put, t9]; rfl)), (by first | (simp only [upd, put, Nat.reduceEqDiff, ↓reduceIte, t10]; done) | (simp [upd, put, t10]; done) | rfl | (simp [upd, put, t10]; rfl)), (by first | (simp only [upd, put, Nat.reduceEqDiff, ↓reduceIte, t11]; done) | (simp [upd, put, t11]; done) | rfl | (simp [upd, put, t11]; rfl)), ttt, rfl⟩
                      | false =>
                        have g2 := rowT_at D i hiD false hq
                        have HQ := Hid.mk hq
                        have HIJ := Hid.mk hiJ
                        have hs' : ∃ s', Hid (Soon D J (i + 1) s') ∧ ((∃ hs : x.2.1 < s, s' = x.2.1) ∨ (∃ hs : ¬ x.2.1 < s, s' = s)) := by
                          refine ⟨if x.2.1 < s then x.2.1 else s, .mk (I.out.2.2.1.step hiJ hq (by rw [hx]; rfl)), ?_⟩
                          by_cases hs : x.2.1 < s
                          · exact .inl ⟨hs, if_pos hs⟩
                          · exact .inr ⟨hs, if_neg hs⟩
                        clear hx hq l2 hiJ hiD
                        obtain ⟨s', HSN, hs'⟩ := hs'
                        rcases hs' with ⟨hs, rfl⟩ | ⟨hs, rfl⟩
                        all_goals (
                          by_cases hk : x.2.1 ≤ now
                          · by_cases hb : bst < 0
                            · repeat' (first | exact tf0 ‹_› | exact tf1 ‹_› | exact False.elim ‹_› | (with_reducible refine Al.intro ?_; intro pb hpb; (try simp only [hupd_none'] at hpb); (repeat rcases hpb with ⟨⟨hpx, hpy⟩, hpb⟩)) | with_reducible refine need ?_ | ((with_reducible first | refine frk0 ?_ ?_ | refine frk1 ?_ ?_ | refine frk2 ?_ ?_ | refine frk3 ?_ ?_ | refine frk4 ?_ ?_ | refine frk5 ?_ ?_ | refine frk6 ?_ ?_ | refine frk7 ?_ ?_ | refine frk8 ?_ ?_ | refine frk9 ?_ ?_) <;> intro h <;> try (exfalso; omega)) | with_reducible refine quiet_and ?_ ?_ | with_reducible refine awp_drawnA mixed (by decide +kernel) ?_ | ((fail_if_success with_reducible refine stp ?_); simp -implicitDefEqProofs only [go_sem, Nat.reduceEqDiff, Nat.reduceAdd, Nat.reduceLT, Nat.reduceMul, Nat.reduceSub, Nat.reduceLeDiff, ↓reduceIte, reduceCtorEq, ↓String.reduceEq, String.reduceNe, Int.reduceToNat, Int.reduceLT, Int.reduceLE, Int.reduceGT, Int.reduceGE, Int.reduceEq, Int.reduceNe, Int.reduceBEq, Int.reduceBNe, Int.reduceAdd, Int.reduceSub, Int.reduceMul, Int.reduceNeg,  rowT, *]))
                              exact Again.intro ⟨L - (i + 1), by have := I.out; omega, _, Sub.refl _, i + 1, _, _, .mk ⟨rfl, by omega, HSN.out, I.out.2.2.2.first HIJ.out HQ.out (by rw [HX.out]; exact hk) hb⟩, (by first | (simp only [upd, put, Nat.reduceEqDiff, ↓reduceIte, t0]; done) | (simp [upd, put, t0]; done) | rfl | (simp [upd, put, t0]; rfl)), (by first | (simp only [upd, put, Nat.reduceEqDiff, ↓reduceIte, t1]; done) | (simp [upd, put, t1]; done) | rfl | (simp [upd, put, t1]; rfl)), (by first | (simp only [upd, put, Nat.reduceEqDiff, ↓reduceIte, t7]; done) | (simp [upd, put, t7]; done) | rfl | (simp [upd, put, t7]; rfl)), (by first | (simp only [upd, put, Nat.reduceEqDiff, ↓reduceIte, t8]; done) | (simp [upd, put, t8]; done) | rfl | (simp [upd, put, t8]; rfl)), (by first | (simp only [upd, put, Nat.reduceEqDiff, ↓reduceIte, t9]; done) | (simp [upd, put, t9]; done) | rfl | (simp [upd, put, t9]; rfl)), ttt, (by first | (simp only [upd, put, Nat.reduceEqDiff, ↓reduceIte, t11]; done) | (simp [upd, put, t11]; done) | rfl | (simp [upd, put, t11]; rfl)), ttt, rfl⟩
                            · obtain ⟨c, rfl⟩ : ∃ c : Nat, bst = (c : Int) := ⟨bst.toNat, by omega⟩
                              have hcl : c < i ∧ (J.getD c default, (c : Int)) ∈ rem D J := by
                                rcases I.out.2.2.2 with ⟨e, -⟩ | ⟨c', h1, h2, h3, -⟩
                                · omega
                                · have e : c = c' := by omega
                                  subst e; exact ⟨h1, h3⟩
                              obtain ⟨y, hy⟩ : ∃ y, J.getD c default = y := ⟨_, rfl⟩
                              have hcJ : c < J.length := by have := HIJ.out; omega
                              have ltc : c < L := by omega
                              have f0 := lst_at J c hcJ y hy
                              have HY := Hid.mk (And.intro hy hcJ)
                              clear hy hcJ hcl
                              repeat' (first | exact tf0 ‹_› | exact tf1 ‹_› | exact False.elim ‹_› | (with_reducible refine Al.intro ?_; intro pb hpb; (try simp only [hupd_none'] at hpb); (repeat rcases hpb with ⟨⟨hpx, hpy⟩, hpb⟩)) | with_reducible refine need ?_ | ((with_reducible first | refine frk0 ?_ ?_ | refine frk1 ?_ ?_ | refine frk2 ?_ ?_ | refine frk3 ?_ ?_ | refine frk4 ?_ ?_ | refine frk5 ?_ ?_ | refine frk6 ?_ ?_ | refine frk7 ?_ ?_ | refine frk8 ?_ ?_ | refine frk9 ?_ ?_) <;> intro h <;> try (exfalso; omega)) | with_reducible refine quiet_and ?_ ?_ | with_reducible refine awp_drawnA mixed (by decide +kernel) ?_ | ((fail_if_success with_reducible refine stp ?_); simp -implicitDefEqProofs only [go_sem, Nat.reduceEqDiff, Nat.reduceAdd, Nat.reduceLT, Nat.reduceMul, Nat.reduceSub, Nat.reduceLeDiff, ↓reduceIte, reduceCtorEq, ↓String.reduceEq, String.reduceNe, Int.reduceToNat, Int.reduceLT, Int.reduceLE, Int.reduceGT, Int.reduceGE, Int.reduceEq, Int.reduceNe, Int.reduceBEq, Int.reduceBNe, Int.reduceAdd, Int.reduceSub, Int.reduceMul, Int.reduceNeg,  rowT, *]))
                              refine CallWP.to (rahead_spec G n x y _) ?_
                              have hq2 : aheadF n x y = true ↔ LJ n (J.getD i default) (J.getD c default) := by
                                rw [HX.out, HY.out.1]
                                exact aheadF_iff (HRT.out x (by rw [← HX.out]; exact getD_mem J i HIJ.out)) (HRT.out y (by rw [← HY.out.1]; exact getD_mem J c HY.out.2)) HN.out
                              have hB := I.out.2.2.2.than HIJ.out HQ.out (by rw [HX.out]; exact hk) _ hq2
                              cases hq3 : aheadF n x y with
                              | true =>
                                rw [hq3, if_pos rfl] at hB
                                have HBB := Hid.mk hB
                                clear hB hq2
                                repeat' (first | exact tf0 ‹_› | exact tf1 ‹_› | exact False.elim ‹_› | (with_reducible refine Al.intro ?_; intro pb hpb; (try simp only [hupd_none'] at hpb); (repeat rcases hpb with ⟨⟨hpx, hpy⟩, hpb⟩)) | with_reducible refine need ?_ | ((with_reducible first | refine frk0 ?_ ?_ | refine frk1 ?_ ?_ | refine frk2 ?_ ?_ | refine frk3 ?_ ?_ | refine frk4 ?_ ?_ | refine frk5 ?_ ?_ | refine frk6 ?_ ?_ | refine frk7 ?_ ?_ | refine frk8 ?_ ?_ | refine frk9 ?_ ?_) <;> intro h <;> try (exfalso; omega)) | with_reducible refine quiet_and ?_ ?_ | with_reducible refine awp_drawnA mixed (by decide +kernel) ?_ | ((fail_if_success with_reducible refine stp ?_); simp -implicitDefEqProofs only [go_sem, Nat.reduceEqDiff, Nat.reduceAdd, Nat.reduceLT, Nat.reduceMul, Nat.reduceSub, Nat.reduceLeDiff, ↓reduceIte, reduceCtorEq, ↓String.reduceEq, String.reduceNe, Int.reduceToNat, Int.reduceLT, Int.reduceLE, Int.reduceGT, Int.reduceGE, Int.reduceEq, Int.reduceNe, Int.reduceBEq, Int.reduceBNe, Int.reduceAdd, Int.reduceSub, Int.reduceMul, Int.reduceNeg,  rowT, *]))
                                exact Again.intro ⟨L - (i + 1), by have := I.out; omega, _, Sub.refl _, i + 1, _, _, .mk ⟨rfl, by omega, HSN.out, HBB.out⟩, (by first | (simp only [upd, put, Nat.reduceEqDiff, ↓reduceIte, t0]; done) | (simp [upd, put, t0]; done) | rfl | (simp [upd, put, t0]; rfl)), (by first | (simp only [upd, put, Nat.reduceEqDiff, ↓reduceIte, t1]; done) | (simp [upd, put, t1]; done) | rfl | (simp [upd, put, t1]; rfl)), (by first | (simp only [upd, put, Nat.reduceEqDiff, ↓reduceIte, t7]; done) | (simp [upd, put, t7]; done) | rfl | (simp [upd, put, t7]; rfl)), (by first | (simp only [upd, put, Nat.reduceEqDiff, ↓reduceIte, t8]; done) | (simp [upd, put, t8]; done) | rfl | (simp [upd, put, t8]; rfl)), (by first | (simp only [upd, put, Nat.reduceEqDiff, ↓reduceIte, t9]; done) | (simp [upd, put, t9]; done) | rfl | (simp [upd, put, t9]; rfl)), ttt, (by first | (simp only [upd, put, Nat.reduceEqDiff, ↓reduceIte, t11]; done) | (simp [upd, put, t11]; done) | rfl | (simp [upd, put, t11]; rfl)), ttt, rfl⟩
                              | false =>
                                rw [hq3, if_neg (by simp)] at hB
                                have HBB := Hid.mk hB
                                clear hB hq2
                                repeat' (first | exact tf0 ‹_› | exact tf1 ‹_› | exact False.elim ‹_› | (with_reducible refine Al.intro ?_; intro pb hpb; (try simp only [hupd_none'] at hpb); (repeat rcases hpb with ⟨⟨hpx, hpy⟩, hpb⟩)) | with_reducible refine need ?_ | ((with_reducible first | refine frk0 ?_ ?_ | refine frk1 ?_ ?_ | refine frk2 ?_ ?_ | refine frk3 ?_ ?_ | refine frk4 ?_ ?_ | refine frk5 ?_ ?_ | refine frk6 ?_ ?_ | refine frk7 ?_ ?_ | refine frk8 ?_ ?_ | refine frk9 ?_ ?_) <;> intro h <;> try (exfalso; omega)) | with_reducible refine quiet_and ?_ ?_ | with_reducible refine awp_drawnA mixed (by decide +kernel) ?_ | ((fail_if_success with_reducible refine stp ?_); simp -implicitDefEqProofs only [go_sem, Nat.reduceEqDiff, Nat.reduceAdd, Nat.reduceLT, Nat.reduceMul, Nat.reduceSub, Nat.reduceLeDiff, ↓reduceIte, reduceCtorEq, ↓String.reduceEq, String.reduceNe, Int.reduceToNat, Int.reduceLT, Int.reduceLE, Int.reduceGT, Int.reduceGE, Int.reduceEq, Int.reduceNe, Int.reduceBEq, Int.reduceBNe, Int.reduceAdd, Int.reduceSub, Int.reduceMul, Int.reduceNeg,  rowT, *]))
                                exact Again.intro ⟨L - (i + 1), by have := I.out; omega, _, Sub.refl _, i + 1, _, _, .mk ⟨rfl, by omega, HSN.out, HBB.out⟩, (by first | (simp only [upd, put, Nat.reduceEqDiff, ↓reduceIte, t0]; done) | (simp [upd, put, t0]; done) | rfl | (simp [upd, put, t0]; rfl)), (by first | (simp only [upd, put, Nat.reduceEqDiff, ↓reduceIte, t1]; done) | (simp [upd, put, t1]; done) | rfl | (simp [upd, put, t1]; rfl)), (by first | (simp only [upd, put, Nat.reduceEqDiff, ↓reduceIte, t7]; done) | (simp [upd, put, t7]; done) | rfl | (simp [upd, put, t7]; rfl)), (by first | (simp only [upd, put, Nat.reduceEqDiff, ↓reduceIte, t8]; done) | (simp [upd, put, t8]; done) | rfl | (simp [upd, put, t8]; rfl)), (by first | (simp only [upd, put, Nat.reduceEqDiff, ↓reduceIte, t9]; done) | (simp [upd, put, t9]; done) | rfl | (simp [upd, put, t9]; rfl)), (by first | (simp only [upd, put, Nat.reduceEqDiff, ↓reduceIte, t10]; done) | (simp [upd, put, t10]; done) | rfl | (simp [upd, put, t10]; rfl)), (by first | (simp only [upd, put, Nat.reduceEqDiff, ↓reduceIte, t11]; done) | (simp [upd, put, t11]; done) | rfl | (simp [upd, put, t11]; rfl)), ttt, rfl⟩
                          · repeat' (first | exact tf0 ‹_› | exact tf1 ‹_› | exact False.elim ‹_› | (with_reducible refine Al.intro ?_; intro pb hpb; (try simp only [hupd_none'] at hpb); (repeat rcases hpb with ⟨⟨hpx, hpy⟩, hpb⟩)) | with_reducible refine need ?_ | ((with_reducible first | refine frk0 ?_ ?_ | refine frk1 ?_ ?_ | refine frk2 ?_ ?_ | refine frk3 ?_ ?_ | refine frk4 ?_ ?_ | refine frk5 ?_ ?_ | refine frk6 ?_ ?_ | refine frk7 ?_ ?_ | refine frk8 ?_ ?_ | refine frk9 ?_ ?_) <;> intro h <;> try (exfalso; omega)) | with_reducible refine quiet_and ?_ ?_ | with_reducible refine awp_drawnA mixed (by decide +kernel) ?_ | ((fail_if_success with_reducible refine stp ?_); simp -implicitDefEqProofs only [go_sem, Nat.reduceEqDiff, Nat.reduceAdd, Nat.reduceLT, Nat.reduceMul, Nat.reduceSub, Nat.reduceLeDiff, ↓reduceIte, reduceCtorEq, ↓String.reduceEq, String.reduceNe, Int.reduceToNat, Int.reduceLT, Int.reduceLE, Int.reduceGT, Int.reduceGE, Int.reduceEq, Int.reduceNe, Int.reduceBEq, Int.reduceBNe, Int.reduceAdd, Int.reduceSub, Int.reduceMul, Int.reduceNeg,  rowT, *]))
                            exact Again.intro ⟨L - (i + 1), by have := I.out; omega, _, Sub.refl _, i + 1, _, bst, .mk ⟨rfl, by omega, HSN.out, I.out.2.2.2.late (by rw [HX.out]; exact hk)⟩, (by first | (simp only [upd, put, Nat.reduceEqDiff, ↓reduceIte, t0]; done) | (simp [upd, put, t0]; done) | rfl | (simp [upd, put, t0]; rfl)), (by first | (simp only [upd, put, Nat.reduceEqDiff, ↓reduceIte, t1]; done) | (simp [upd, put, t1]; done) | rfl | (simp [upd, put, t1]; rfl)), (by first | (simp only [upd, put, Nat.reduceEqDiff, ↓reduceIte, t7]; done) | (simp [upd, put, t7]; done) | rfl | (simp [upd, put, t7]; rfl)), (by first | (simp only [upd, put, Nat.reduceEqDiff, ↓reduceIte, t8]; done) | (simp [upd, put, t8]; done) | rfl | (simp [upd, put, t8]; rfl)), (by first | (simp only [upd, put, Nat.reduceEqDiff, ↓reduceIte, t9]; done) | (simp [upd, put, t9]; done) | rfl | (simp [upd, put, t9]; rfl)), (by first | (simp only [upd, put, Nat.reduceEqDiff, ↓reduceIte, t10]; done) | (simp [upd, put, t10]; done) | rfl | (simp [upd, put, t10]; rfl)), (by first | (simp only [upd, put, Nat.reduceEqDiff, ↓reduceIte, t11]; done) | (simp [upd, put, t11]; done) | rfl | (simp [upd, put, t11]; rfl)), ttt, rfl⟩)
                    · have lti : ¬ (i : Int) < (L : Int) := by omega
                      repeat' (first | exact tf0 ‹_› | exact tf1 ‹_› | exact False.elim ‹_› | (with_reducible refine Al.intro ?_; intro pb hpb; (try simp only [hupd_none'] at hpb); (repeat rcases hpb with ⟨⟨hpx, hpy⟩, hpb⟩)) | with_reducible refine need ?_ | ((with_reducible first | refine frk0 ?_ ?_ | refine frk1 ?_ ?_ | refine frk2 ?_ ?_ | refine frk3 ?_ ?_ | refine frk4 ?_ ?_ | refine frk5 ?_ ?_ | refine frk6 ?_ ?_ | refine frk7 ?_ ?_ | refine frk8 ?_ ?_ | refine frk9 ?_ ?_) <;> intro h <;> try (exfalso; omega)) | with_reducible refine quiet_and ?_ ?_ | with_reducible refine awp_drawnA mixed (by decide +kernel) ?_ | ((fail_if_success with_reducible refine stp ?_); simp -implicitDefEqProofs only [go_sem, Nat.reduceEqDiff, Nat.reduceAdd, Nat.reduceLT, Nat.reduceMul, Nat.reduceSub, Nat.reduceLeDiff, ↓reduceIte, reduceCtorEq, ↓String.reduceEq, String.reduceNe, Int.reduceToNat, Int.reduceLT, Int.reduceLE, Int.reduceGT, Int.reduceGE, Int.reduceEq, Int.reduceNe, Int.reduceBEq, Int.reduceBNe, Int.reduceAdd, Int.reduceSub, Int.reduceMul, Int.reduceNeg,  *]))
                      exact Again.intro ⟨s, bst, .mk (by have h := I.out; have e : i = L := by omega
                                                         rw [← e]; exact h.2.2), (by first | (simp only [upd, put, Nat.reduceEqDiff, ↓reduceIte, t0]; done) | (simp [upd, put, t0]; done) | rfl | (simp [upd, put, t0]; rfl)), (by first | (simp only [upd, put, Nat.reduceEqDiff, ↓reduceIte, t1]; done) | (simp [upd, put, t1]; done) | rfl | (simp [upd, put, t1]; rfl)), (by first | (simp only [upd, put, Nat.reduceEqDiff, ↓reduceIte, t7]; done) | (simp [upd, put, t7]; done) | rfl | (simp [upd, put, t7]; rfl)), (by first | (simp only [upd, put, Nat.reduceEqDiff, ↓reduceIte, t8]; done) | (simp [upd, put, t8]; done) | rfl | (simp [upd, put, t8]; rfl)), (by first | (simp only [upd, put, Nat.reduceEqDiff, ↓reduceIte, t9]; done) | (simp [upd, put, t9]; done) | rfl | (simp [upd, put, t9]; rfl)), (by first | (simp only [upd, put, Nat.reduceEqDiff, ↓reduceIte, t10]; done) | (simp [upd, put, t10]; done) | rfl | (simp [upd, put, t10]; rfl)), (by first | (simp only [upd, put, Nat.reduceEqDiff, ↓reduceIte, t11]; done) | (simp [upd, put, t11]; done) | rfl | (simp [upd, put, t11]; rfl)), rfl⟩
                  · clear t0 t1 t7 t8 t9
                    rintro ts m3 ⟨s, bst, I, t0, t1, t7, t8, t9, t10, t11, hm3⟩
                    subst m3
                    have hall : ∀ u ∈ rem D J, u.2 < (L : Int) := fun u hu => by
                      obtain ⟨j, hj, rfl, -⟩ := mem_rem.1 hu
                      have := H0.out; simp only; omega
                    rcases I.out.2 with ⟨rfl, hnone⟩ | ⟨c, hcL, rfl, hcr, hct, hcb⟩
                    · have HNO := Hid.mk hnone
                      have HAL := Hid.mk hall
                      clear hnone hall
                      repeat' (first | exact tf0 ‹_› | exact tf1 ‹_› | exact False.elim ‹_› | (with_reducible refine Al.intro ?_; intro pb hpb; (try simp only [hupd_none'] at hpb); (repeat rcases hpb with ⟨⟨hpx, hpy⟩, hpb⟩)) | with_reducible refine need ?_ | ((with_reducible first | refine frk0 ?_ ?_ | refine frk1 ?_ ?_ | refine frk2 ?_ ?_ | refine frk3 ?_ ?_ | refine frk4 ?_ ?_ | refine frk5 ?_ ?_ | refine frk6 ?_ ?_ | refine frk7 ?_ ?_ | refine frk8 ?_ ?_ | refine frk9 ?_ ?_) <;> intro h <;> try (exfalso; omega)) | with_reducible refine quiet_and ?_ ?_ | with_reducible refine awp_drawnA mixed (by decide +kernel) ?_ | ((fail_if_success with_reducible refine stp ?_); simp -implicitDefEqProofs only [go_sem, Nat.reduceEqDiff, Nat.reduceAdd, Nat.reduceLT, Nat.reduceMul, Nat.reduceSub, Nat.reduceLeDiff, ↓reduceIte, reduceCtorEq, ↓String.reduceEq, String.reduceNe, Int.reduceToNat, Int.reduceLT, Int.reduceLE, Int.reduceGT, Int.reduceGE, Int.reduceEq, Int.reduceNe, Int.reduceBEq, Int.reduceBNe, Int.reduceAdd, Int.reduceSub, Int.reduceMul, Int.reduceNeg,  *]))
                      exact Again.intro ⟨2 * (rem D J).length, by
                          obtain ⟨a1, a2, a3⟩ := W.out
                          rcases a3.at_ with e | ⟨e, ⟨u, hu, hk⟩, -⟩
                          · rw [if_pos e] at a1; omega
                          · have := HNO.out u hu (HAL.out u hu); omega, _, Sub.refl _, D, vo, S, now0, s, .mk (by
                          obtain ⟨a1, a2, a3⟩ := W.out
                          have e0 : now = now0 := by
                            rcases a3.at_ with e | ⟨e, ⟨u, hu, hk⟩, -⟩
                            · exact e
                            · have := HNO.out u hu (HAL.out u hu); omega
                          obtain ⟨u, hu⟩ : ∃ u, u ∈ rem D J := by
                            cases hr : rem D J with
                            | nil =>
                              exfalso
                              have e := a3.len
                              have e2 := H0.out
                              have e3 := HLS.out
                              rw [hr] at e
                              simp only [List.length_nil] at e
                              omega
                            | cons u t => exact ⟨u, by simp⟩
                          have hsu := I.out.1.2 u hu (HAL.out u hu)
                          have hbd : ∀ u ∈ rem D J, kT u ≤ 1125899906842624 := fun u hu => by
                            obtain ⟨j, hj, rfl, -⟩ := mem_rem.1 hu
                            exact ((rightJ_iff _).1 (HRT.out _ (getD_mem J j hj))).2.1.2
                          obtain ⟨u2, hu2, hk2⟩ : ∃ u ∈ rem D J, s = kT u := by
                            rcases I.out.1.1 with e | e
                            · have := hbd u hu; omega
                            · exact e
                          have hlt2 := HNO.out u2 hu2 (HAL.out u2 hu2)
                          have hb2 := hbd u2 hu2
                          refine ⟨by rw [if_neg (by omega)]; rfl, a2, ⟨a3.dl, a3.len, a3.goes, .inr ⟨by omega, ⟨u2, hu2, hk2⟩, fun u hu => I.out.1.2 u hu (HAL.out u hu)⟩, a3.pos, ?_⟩⟩
                          have : (0 : Int) ≤ (S.length : Int) := by omega
                          omega), (by first | (simp only [upd, put, Nat.reduceEqDiff, ↓reduceIte, t0]; done) | (simp [upd, put, t0]; done) | rfl | (simp [upd, put, t0]; rfl)), (by first | (simp only [upd, put, Nat.reduceEqDiff, ↓reduceIte, t1]; done) | (simp [upd, put, t1]; done) | rfl | (simp [upd, put, t1]; rfl)), (by first | (simp only [upd, put, Nat.reduceEqDiff, ↓reduceIte, t7]; done) | (simp [upd, put, t7]; done) | rfl | (simp [upd, put, t7]; rfl)), (by first | (simp only [upd, put, Nat.reduceEqDiff, ↓reduceIte, t8]; done) | (simp [upd, put, t8]; done) | rfl | (simp [upd, put, t8]; rfl)), (by first | (simp only [upd, put, Nat.reduceEqDiff, ↓reduceIte, t11]; done) | (simp [upd, put, t11]; done) | rfl | (simp [upd, put, t11]; rfl))⟩
                    · have hcJ : c < J.length := by have := H0.out; omega
                      have hcD : c < D.length := by have := W.out.2.2.dl; omega
                      have hq : D.getD c false = false := by
                        obtain ⟨j, hj, e, hd⟩ := mem_rem.1 hcr
                        have : c = j := by have := congrArg Prod.snd e; simp only at this; omega
                        rw [this]; exact hd
                      obtain ⟨x, hx⟩ : ∃ x, J.getD c default = x := ⟨_, rfl⟩
                      have hxr := (rightJ_iff _).1 (HRT.out x (by rw [← hx]; exact getD_mem J c hcJ))
                      have g1 := lst_at J c hcJ x hx
                      have l2 := rowT_len D
                      have l3 : c < (D.flatMap encB).length := by omega
                      have s1 := rowT_set D c true hcD
                      have nbc : ¬ (c : Int) < 0 := by omega
                      have ltc : (c : Int) < (L : Int) := by omega
                      have hbeg : Begin (rem D J) now0 now := by
                        rcases W.out.2.2.at_ with e | e
                        · exact .inl ⟨e, _, hcr, by omega⟩
                        · exact .inr e
                      have hlow : now ≤ 1125899906842624 + (S.length : Int) * 1073741824 := W.out.2.2.low
                      have hpos : 0 ≤ now := by
                        have := W.out.2.2.pos
                        rcases W.out.2.2.at_ with e | ⟨e, -⟩ <;> omega
                      have w1 : IntKind.i64.wrap (now + x.2.2.2) = now + x.2.2.2 := by
                        have e := W.out.2.2.len
                        have e2 := H0.out
                        rw [wrap_i64 (by omega) (by omega)]
                      have hperm := rem_set hcJ W.out.2.2.dl hq
                      rw [hx] at hcr hct hcb hperm
                      have HC2 := Hid.mk (And.intro hcr (And.intro hct (And.intro hcb (And.intro hperm (And.intro hbeg (And.intro hxr (And.intro hlow hpos)))))))
                      have mem1 : RMem m (hupd m2 pd (rowT (D.set c true) L)) pd L (D.set c true) vo S := by
                        have a := W.out.2.1
                        exact ⟨by rw [hupd_at, if_pos rfl], a.out.keep fun q hq => hupd_ne (fun e => a.no (by rw [hq, e])), fun q y hq => by rw [hupd_ne (fun e => by rw [e, a.fd] at hq; cases hq)]; exact a.sub q y hq, a.fd, a.fo, a.no⟩
                      have M1 := Hid.mk mem1
                      clear hx hq hcD hcJ hcr hct hcb hperm hbeg hxr hlow hpos mem1 hall l2
                      repeat' (first | exact tf0 ‹_› | exact tf1 ‹_› | exact False.elim ‹_› | (with_reducible refine Al.intro ?_; intro pb hpb; (try simp only [hupd_none'] at hpb); (repeat rcases hpb with ⟨⟨hpx, hpy⟩, hpb⟩)) | with_reducible refine need ?_ | ((with_reducible first | refine frk0 ?_ ?_ | refine frk1 ?_ ?_ | refine frk2 ?_ ?_ | refine frk3 ?_ ?_ | refine frk4 ?_ ?_ | refine frk5 ?_ ?_ | refine frk6 ?_ ?_ | refine frk7 ?_ ?_ | refine frk8 ?_ ?_ | refine frk9 ?_ ?_) <;> intro h <;> try (exfalso; omega)) | with_reducible refine quiet_and ?_ ?_ | with_reducible refine awp_drawnA mixed (by decide +kernel) ?_ | ((fail_if_success with_reducible refine stp ?_); simp -implicitDefEqProofs only [go_sem, Nat.reduceEqDiff, Nat.reduceAdd, Nat.reduceLT, Nat.reduceMul, Nat.reduceSub, Nat.reduceLeDiff, ↓reduceIte, reduceCtorEq, ↓String.reduceEq, String.reduceNe, Int.reduceToNat, Int.reduceLT, Int.reduceLE, Int.reduceGT, Int.reduceGE, Int.reduceEq, Int.reduceNe, Int.reduceBEq, Int.reduceBNe, Int.reduceAdd, Int.reduceSub, Int.reduceMul, Int.reduceNeg,  rowT, *]))
                      refine app1 (enc := encSt) (sz := 3) (C := S) (x := ((x, (c : Int)), now)) Try.underlying28 tk_39 eb_39 zl_39 (by decide) (by rw [Try.underlying28]; rfl) (by unfold isInt; rw [Try.underlying28]) encSt_len rfl ⟨3, by rw [hupd_at, if_pos rfl]⟩ (M1.out.out.fresh (by rw [hupd_ne (by assumption)]; assumption)) (by have := W.out.2.2.len; have := H0.out; omega) (fun vo2 m6 h1 h2 => ?_)
                      have mem2 := (M1.out.into (Sub.fresh (Sub.refl _) (by rw [hupd_ne hpx]; exact hpb))).sent h2 h1
                      have M2 := Hid.mk mem2
                      clear h1 h2 mem2 M1 hdr
                      repeat' (first | exact tf0 ‹_› | exact tf1 ‹_› | exact False.elim ‹_› | (with_reducible refine Al.intro ?_; intro pb hpb; (try simp only [hupd_none'] at hpb); (repeat rcases hpb with ⟨⟨hpx, hpy⟩, hpb⟩)) | with_reducible refine need ?_ | ((with_reducible first | refine frk0 ?_ ?_ | refine frk1 ?_ ?_ | refine frk2 ?_ ?_ | refine frk3 ?_ ?_ | refine frk4 ?_ ?_ | refine frk5 ?_ ?_ | refine frk6 ?_ ?_ | refine frk7 ?_ ?_ | refine frk8 ?_ ?_ | refine frk9 ?_ ?_) <;> intro h <;> try (exfalso; omega)) | with_reducible refine quiet_and ?_ ?_ | with_reducible refine awp_drawnA mixed (by decide +kernel) ?_ | ((fail_if_success with_reducible refine stp ?_); simp -implicitDefEqProofs only [go_sem, Nat.reduceEqDiff, Nat.reduceAdd, Nat.reduceLT, Nat.reduceMul, Nat.reduceSub, Nat.reduceLeDiff, ↓reduceIte, reduceCtorEq, ↓String.reduceEq, String.reduceNe, Int.reduceToNat, Int.reduceLT, Int.reduceLE, Int.reduceGT, Int.reduceGE, Int.reduceEq, Int.reduceNe, Int.reduceBEq, Int.reduceBNe, Int.reduceAdd, Int.reduceSub, Int.reduceMul, Int.reduceNeg,  *]))
                      exact Again.intro ⟨2 * (rem (D.set c true) J).length + 1, by
                          have a1 := W.out.1
                          have a2 := HC2.out.2.2.2.1.length_eq
                          simp only [List.length_cons] at a2
                          omega, _, Sub.refl _, D.set c true, vo2, S ++ [((x, (c : Int)), now)], now + x.2.2.2, now + x.2.2.2, .mk (by
                          obtain ⟨a1, a2, a3⟩ := W.out
                          obtain ⟨c1, c2, c3, c4, c5, c6, c7, c8⟩ := HC2.out
                          have e1 := c4.length_eq
                          simp only [List.length_cons] at e1
                          refine ⟨by rw [if_pos rfl], M2.out, ⟨by rw [List.length_set]; exact a3.dl, ?_, ?_, .inl rfl, by omega, ?_⟩⟩
                          · have := a3.len
                            rw [List.length_append]; simp only [List.length_cons, List.length_nil]; omega
                          · intro S' hS'
                            rw [List.append_assoc]
                            refine a3.goes _ (.cons (R' := rem (D.set c true) J) c4 c5 c2 (fun u hu hk => c3 u hu ?_ hk) hS')
                            obtain ⟨j, hj, rfl, -⟩ := mem_rem.1 hu
                            have := H0.out; simp only; omega
                          · rw [List.length_append]; simp only [List.length_cons, List.length_nil]; omega), (by first | (simp only [upd, put, Nat.reduceEqDiff, ↓reduceIte, t0]; done) | (simp [upd, put, t0]; done) | rfl | (simp [upd, put, t0]; rfl)), (by first | (simp only [upd, put, Nat.reduceEqDiff, ↓reduceIte, t1]; done) | (simp [upd, put, t1]; done) | rfl | (simp [upd, put, t1]; rfl)), (by first | (simp only [upd, put, Nat.reduceEqDiff, ↓reduceIte, t7]; done) | (simp [upd, put, t7]; done) | rfl | (simp [upd, put, t7]; rfl)), ttt, ttt⟩)
              · have lt : ¬ (ls : Int) < (L : Int) := by omega
                rcases hvo with ⟨hvo, hl0⟩ | ⟨bo, oo, co, hvo⟩
                all_goals (
                  have t8' := t8
                  rw [hvo] at t8'
                  have HV := Hid.mk hvo
                  clear hvo
                  (try subst hl0)
                  have T8 := Hid.mk t8
                  clear t8
                  repeat' (first | exact tf0 ‹_› | exact tf1 ‹_› | exact False.elim ‹_› | (with_reducible refine Al.intro ?_; intro pb hpb; (try simp only [hupd_none'] at hpb); (repeat rcases hpb with ⟨⟨hpx, hpy⟩, hpb⟩)) | with_reducible refine need ?_ | ((with_reducible first | refine frk0 ?_ ?_ | refine frk1 ?_ ?_ | refine frk2 ?_ ?_ | refine frk3 ?_ ?_ | refine frk4 ?_ ?_ | refine frk5 ?_ ?_ | refine frk6 ?_ ?_ | refine frk7 ?_ ?_ | refine frk8 ?_ ?_ | refine frk9 ?_ ?_) <;> intro h <;> try (exfalso; omega)) | with_reducible refine quiet_and ?_ ?_ | with_reducible refine awp_drawnA mixed (by decide +kernel) ?_ | ((fail_if_success with_reducible refine stp ?_); simp -implicitDefEqProofs only [go_sem, Nat.reduceEqDiff, Nat.reduceAdd, Nat.reduceLT, Nat.reduceMul, Nat.reduceSub, Nat.reduceLeDiff, ↓reduceIte, reduceCtorEq, ↓String.reduceEq, String.reduceNe, Int.reduceToNat, Int.reduceLT, Int.reduceLE, Int.reduceGT, Int.reduceGE, Int.reduceEq, Int.reduceNe, Int.reduceBEq, Int.reduceBNe, Int.reduceAdd, Int.reduceSub, Int.reduceMul, Int.reduceNeg,  *]))
                  exact Again.intro ⟨S, vo, .mk (by
                    have e := W.out.2.2.len
                    have e2 := H0.out
                    have e3 := HLS.out
                    have hr : rem D J = [] := List.eq_nil_of_length_eq_zero (by omega)
                    have := W.out.2.2.goes [] (by rw [hr]; exact .nil _)
                    rw [List.append_nil] at this
                    exact ⟨this, W.out.2.1.out, W.out.2.1.sub, W.out.2.1.fo⟩), by have t8 := T8.out; exact ((by first | (simp only [upd, put, Nat.reduceEqDiff, ↓reduceIte, t8]; done) | (simp [upd, put, t8]; done) | rfl | (simp [upd, put, t8]; rfl)))⟩)
            · rintro ts m2 ⟨S, vo, HF, t8⟩
              repeat' (first | exact tf0 ‹_› | exact tf1 ‹_› | exact False.elim ‹_› | (with_reducible refine Al.intro ?_; intro pb hpb; (try simp only [hupd_none'] at hpb); (repeat rcases hpb with ⟨⟨hpx, hpy⟩, hpb⟩)) | with_reducible refine need ?_ | ((with_reducible first | refine frk0 ?_ ?_ | refine frk1 ?_ ?_ | refine frk2 ?_ ?_ | refine frk3 ?_ ?_ | refine frk4 ?_ ?_ | refine frk5 ?_ ?_ | refine frk6 ?_ ?_ | refine frk7 ?_ ?_ | refine frk8 ?_ ?_ | refine frk9 ?_ ?_) <;> intro h <;> try (exfalso; omega)) | with_reducible refine quiet_and ?_ ?_ | with_reducible refine awp_drawnA mixed (by decide +kernel) ?_ | ((fail_if_success with_reducible refine stp ?_); simp -implicitDefEqProofs only [go_sem, Nat.reduceEqDiff, Nat.reduceAdd, Nat.reduceLT, Nat.reduceMul, Nat.reduceSub, Nat.reduceLeDiff, ↓reduceIte, reduceCtorEq, ↓String.reduceEq, String.reduceNe, Int.reduceToNat, Int.reduceLT, Int.reduceLE, Int.reduceGT, Int.reduceGE, Int.reduceEq, Int.reduceNe, Int.reduceBEq, Int.reduceBNe, Int.reduceAdd, Int.reduceSub, Int.reduceMul, Int.reduceNeg,  *]))
              refine ⟨_, Sub.refl _, ?_⟩
              (try rw [t8])
              obtain ⟨h1, h2, h3, h4⟩ := HF.out
              exact HK.out HC.out S vo _ h1 h2 h3 h4
      · have n3 : (256 : Int) < (L : Int) := by omega
        have hv2 : (∃ b pre post N cap, vj = .slice b pre.length L cap ∧ m b = some (.cells (pre ++ (J.flatMap encJc ++ post)) N)) ∨ vj = .list 4 (J.map encJ) := by
          rcases hv with ⟨-, h⟩ | h
          · omega
          · exact h
        have hc : checkF J n = 11 := by
          unfold checkF
          rw [if_neg (by simpa using HN.out), if_pos (by have := H0.out; omega)]
        have HC := Hid.mk hc
        clear hc
        rcases hv2 with ⟨b, pre, post, N, cap, rfl, hrow⟩ | rfl
        all_goals (
          refine callWP_body Try.func10 rfl (N := 115) rfl (rs := [.tmp 4, .tmp 5]) rfl en_10 (of_decide_eq_true rfl) ?_
          repeat' (first | exact tf0 ‹_› | exact tf1 ‹_› | exact False.elim ‹_› | (with_reducible refine Al.intro ?_; intro pb hpb; (try simp only [hupd_none'] at hpb); (repeat rcases hpb with ⟨⟨hpx, hpy⟩, hpb⟩)) | with_reducible refine need ?_ | ((with_reducible first | refine frk0 ?_ ?_ | refine frk1 ?_ ?_ | refine frk2 ?_ ?_ | refine frk3 ?_ ?_ | refine frk4 ?_ ?_ | refine frk5 ?_ ?_ | refine frk6 ?_ ?_ | refine frk7 ?_ ?_ | refine frk8 ?_ ?_ | refine frk9 ?_ ?_) <;> intro h <;> try (exfalso; omega)) | with_reducible refine quiet_and ?_ ?_ | with_reducible refine awp_drawnA mixed (by decide +kernel) ?_ | ((fail_if_success with_reducible refine stp ?_); simp -implicitDefEqProofs only [go_sem, Nat.reduceEqDiff, Nat.reduceAdd, Nat.reduceLT, Nat.reduceMul, Nat.reduceSub, Nat.reduceLeDiff, ↓reduceIte, reduceCtorEq, ↓String.reduceEq, String.reduceNe, Int.reduceToNat, Int.reduceLT, Int.reduceLE, Int.reduceGT, Int.reduceGE, Int.reduceEq, Int.reduceNe, Int.reduceBEq, Int.reduceBNe, Int.reduceAdd, Int.reduceSub, Int.reduceMul, Int.reduceNeg,  *]))
          exact ⟨_, Sub.refl _, by have := HB.out (by rw [HC.out]; decide); rwa [HC.out] at this⟩)
    · have n1 : ¬ n < 1 := by omega
      have n2 : 1073741824 < n := by omega
      have hc : checkF J n = 1 := by unfold checkF; rw [if_pos (by omega)]
      have HC := Hid.mk hc
      clear hc hv h1 h2
      refine callWP_body Try.func10 rfl (N := 115) rfl (rs := [.tmp 4, .tmp 5]) rfl en_10 (of_decide_eq_true rfl) ?_
      repeat' (first | exact tf0 ‹_› | exact tf1 ‹_› | exact False.elim ‹_› | (with_reducible refine Al.intro ?_; intro pb hpb; (try simp only [hupd_none'] at hpb); (repeat rcases hpb with ⟨⟨hpx, hpy⟩, hpb⟩)) | with_reducible refine need ?_ | ((with_reducible first | refine frk0 ?_ ?_ | refine frk1 ?_ ?_ | refine frk2 ?_ ?_ | refine frk3 ?_ ?_ | refine frk4 ?_ ?_ | refine frk5 ?_ ?_ | refine frk6 ?_ ?_ | refine frk7 ?_ ?_ | refine frk8 ?_ ?_ | refine frk9 ?_ ?_) <;> intro h <;> try (exfalso; omega)) | with_reducible refine quiet_and ?_ ?_ | with_reducible refine awp_drawnA mixed (by decide +kernel) ?_ | ((fail_if_success with_reducible refine stp ?_); simp -implicitDefEqProofs only [go_sem, Nat.reduceEqDiff, Nat.reduceAdd, Nat.reduceLT, Nat.reduceMul, Nat.reduceSub, Nat.reduceLeDiff, ↓reduceIte, reduceCtorEq, ↓String.reduceEq, String.reduceNe, Int.reduceToNat, Int.reduceLT, Int.reduceLE, Int.reduceGT, Int.reduceGE, Int.reduceEq, Int.reduceNe, Int.reduceBEq, Int.reduceBNe, Int.reduceAdd, Int.reduceSub, Int.reduceMul, Int.reduceNeg,  *]))
      exact ⟨_, Sub.refl _, by have := HB.out (by rw [HC.out]; decide); rwa [HC.out] at this⟩
  · have n1 : n < 1 := by omega
    have hc : checkF J n = 1 := by unfold checkF; rw [if_pos (by omega)]
    have HC := Hid.mk hc
    clear hc hv h1
    refine callWP_body Try.func10 rfl (N := 115) rfl (rs := [.tmp 4, .tmp 5]) rfl en_10 (of_decide_eq_true rfl) ?_
    repeat' (first | exact tf0 ‹_› | exact tf1 ‹_› | exact False.elim ‹_› | (with_reducible refine Al.intro ?_; intro pb hpb; (try simp only [hupd_none'] at hpb); (repeat rcases hpb with ⟨⟨hpx, hpy⟩, hpb⟩)) | with_reducible refine need ?_ | ((with_reducible first | refine frk0 ?_ ?_ | refine frk1 ?_ ?_ | refine frk2 ?_ ?_ | refine frk3 ?_ ?_ | refine frk4 ?_ ?_ | refine frk5 ?_ ?_ | refine frk6 ?_ ?_ | refine frk7 ?_ ?_ | refine frk8 ?_ ?_ | refine frk9 ?_ ?_) <;> intro h <;> try (exfalso; omega)) | with_reducible refine quiet_and ?_ ?_ | with_reducible refine awp_drawnA mixed (by decide +kernel) ?_ | ((fail_if_success with_reducible refine stp ?_); simp -implicitDefEqProofs only [go_sem, Nat.reduceEqDiff, Nat.reduceAdd, Nat.reduceLT, Nat.reduceMul, Nat.reduceSub, Nat.reduceLeDiff, ↓reduceIte, reduceCtorEq, ↓String.reduceEq, String.reduceNe, Int.reduceToNat, Int.reduceLT, Int.reduceLE, Int.reduceGT, Int.reduceGE, Int.reduceEq, Int.reduceNe, Int.reduceBEq, Int.reduceBNe, Int.reduceAdd, Int.reduceSub, Int.reduceMul, Int.reduceNeg,  *]))
    exact ⟨_, Sub.refl _, by have := HB.out (by rw [HC.out]; decide); rwa [HC.out] at this⟩
end Go.Proofs.Ytmifapnmlhchlaa
