/- math/bits.Div64: 128 bits divided by 64. -/
import Derived.Test.YthdglblbdobmoaaR1
import Derived.Test.YthdglblbdobmoaaAb26
set_option linter.all false
namespace Go.Proofs.Ythdglblbdobmoaa
open Go Go.Proofs.Ythdglblbdobmoaa.Ab
open Go.Proofs (Try.prog)
set_option maxRecDepth 100000
set_option maxHeartbeats 4000000 in
theorem div64_spec (G : Nat → AVal) (hi lo y : Nat) (h1 : hi < y) (hl : lo < 18446744073709551616) (hy : y < 18446744073709551616) :
    Ans G 43 [.int .u64 hi, .int .u64 lo, .int .u64 y] (.tuple [.int .u64 (((hi * 18446744073709551616 + lo) / y : Nat) : Int), .int .u64 (((hi * 18446744073709551616 + lo) % y : Nat) : Int)]) := by
  intro m
  refine callWP_body Try.func43 rfl (N := 135) rfl (rs := [.tmp 6, .tmp 7]) rfl en_43 (of_decide_eq_true rfl) ?_
  repeat' (first | contradiction | (with_reducible refine Al.intro ?_; intro b hb; (try simp only [hupd_none'] at hb); (repeat rcases hb with ⟨⟨hx, hy⟩, hb⟩)) | with_reducible refine Need.intro (by first | omega | (with_reducible assumption) | (simp only [List.length_map, List.length_cons, List.length_nil]; omega) | (refine ⟨?_, ?_⟩ <;> omega) | (refine ⟨?_, ?_, ?_⟩ <;> omega) | (simp; done) | (simp; omega)) ?_ | (with_reducible refine condA_dec _ _ _ (fun h => ?_) (fun h => ?_) <;> try (exfalso; omega)) | (with_reducible refine condA_beq _ _ _ _ (fun h => ?_) (fun h => ?_) <;> try (exfalso; omega)) | (with_reducible refine condA_bne _ _ _ _ (fun h => ?_) (fun h => ?_) <;> try (exfalso; omega)) | (with_reducible refine condA_nt _ _ _ (fun h => ?_) (fun h => ?_) <;> try (exfalso; omega)) | (with_reducible refine condA_bool _ _ _ (fun h => ?_) (fun h => ?_) <;> try (exfalso; omega)) | (with_reducible refine gV_dec _ _ _ _ (fun h => ?_) (fun h => ?_) <;> try (exfalso; omega)) | (with_reducible refine gV_beq _ _ _ _ _ (fun h => ?_) (fun h => ?_) <;> try (exfalso; omega)) | (with_reducible refine gV_bne _ _ _ _ _ (fun h => ?_) (fun h => ?_) <;> try (exfalso; omega)) | (with_reducible refine gV_true _ _ _ (fun h => ?_) (fun h => ?_) <;> try (exfalso; omega)) | (with_reducible refine gV_false _ _ _ (fun h => ?_) (fun h => ?_) <;> try (exfalso; omega)) | with_reducible refine awp_drawnA mixed (by decide +kernel) ?_ | ((fail_if_success with_reducible refine isCall ?_); (fail_if_success with_reducible refine isAWP ?_); (fail_if_success with_reducible refine isPart ?_); (fail_if_success with_reducible refine isAgain ?_); simp -implicitDefEqProofs only [go_sem, Nat.reduceEqDiff, Nat.reduceAdd, Nat.reduceLT, Nat.reduceMul, Nat.reduceSub, Nat.reduceLeDiff, ↓reduceIte, reduceCtorEq, ↓String.reduceEq, String.reduceNe,  mkRes, autoOrd, ordG, effs, isLook, isEff, Stab_none, exitA_ret, exitA_normal, exitA_goto, exitA_exit, ↓run_scope, ↓run_goto, ↓run_label, thenA_goto, blockA_goto, jumpA_normal, jumpA_ret, jumpA_exit, jumpA_goto, List.take_succ_cons, *]))
  · refine ⟨m, (by (repeat refine Sub.fresh ?_ (by assumption)); exact Sub.refl m), ?_, rfl⟩
    rename_i h0
    obtain rfl : hi = 0 := by omega
    rw [div_c lo y hl, rem_c]
    congr 4 <;> simp
  · refine CallWP.to (lz_spec G y (by omega) (by omega) _) ?_
    obtain ⟨n0, n1, n2, n3⟩ := norm_y y (by omega) hy
    obtain ⟨s, hs⟩ : ∃ s, s = 64 - Lib.bitLen y := ⟨_, rfl⟩
    rw [← hs] at n2 n3
    obtain ⟨u1, u2, u3⟩ := norm_u hi lo y s (by omega) h1 hl n3
    obtain ⟨yy, hyy⟩ : ∃ yy, yy = y * 2 ^ s := ⟨_, rfl⟩
    obtain ⟨u, hu⟩ : ∃ u, u = hi * 2 ^ s + lo / 2 ^ (64 - s) := ⟨_, rfl⟩
    obtain ⟨v, hv⟩ : ∃ v, v = lo * 2 ^ s % 18446744073709551616 := ⟨_, rfl⟩
    rw [← hyy] at n2 n3 u1
    rw [← hu] at u1 u3
    rw [← hv] at u3
    have es : IntKind.u64.wrap (64 - (Lib.bitLen ((y : Int).toNat) : Int)) = (s : Int) := by
      rw [Int.toNat_natCast, wrap_u64]; omega
    have p0 : 0 < 2 ^ s := Nat.pow_pos (by decide)
    have q1 : ashl .u64 (y : Int) (s : Int) = (yy : Int) := by
      rw [shl_u64 (by omega) (by omega), Int.toNat_natCast]
      have : ((y : Int) * 2 ^ s) = ((y * 2 ^ s : Nat) : Int) := by simp
      rw [this, ← hyy]; exact mod_c _ n3
    have q2 : ashr .u64 (yy : Int) 32 = ((yy / 4294967296 : Nat) : Int) := by rw [shr32 (by omega)]; omega
    have q3 : abits .and .u64 (yy : Int) 4294967295 = ((yy % 4294967296 : Nat) : Int) := by rw [low32 (by omega) (by omega)]; omega
    have hA' : hi * 2 ^ s ≤ u := by rw [hu]; exact Nat.le_add_right _ _
    have hA : hi * 2 ^ s < 18446744073709551616 := by omega
    have q4 : abits .or .u64 (ashl .u64 (hi : Int) (s : Int)) (ashr .u64 (lo : Int) (IntKind.u64.wrap (64 - (s : Int)))) = (u : Int) := by
      have a1 : ashl .u64 (hi : Int) (s : Int) = ((hi * 2 ^ s : Nat) : Int) := by
        rw [shl_u64 (by omega) (by omega), Int.toNat_natCast]
        have : ((hi : Int) * 2 ^ s) = ((hi * 2 ^ s : Nat) : Int) := by simp
        rw [this]; exact mod_c _ hA
      have a2 : ashr .u64 (lo : Int) (IntKind.u64.wrap (64 - (s : Int))) = ((lo / 2 ^ (64 - s) : Nat) : Int) := by
        rw [wrap_u64' (by omega) (by omega), shr_u64 (by omega) (by omega) (by omega)]
        have : ((64 : Int) - (s : Int)).toNat = 64 - s := by omega
        rw [this]; simp
      rw [a1, a2, or_disj s u2 (by omega), ← hu]
    have q5 : ashl .u64 (lo : Int) (s : Int) = (v : Int) := by
      rw [shl_u64 (by omega) (by omega), Int.toNat_natCast]
      have : ((lo : Int) * 2 ^ s) = ((lo * 2 ^ s : Nat) : Int) := by simp
      rw [this, hv]; simp
    have v1 : v < 18446744073709551616 := by rw [hv]; exact Nat.mod_lt _ (by decide)
    have q6 : ashr .u64 (v : Int) 32 = ((v / 4294967296 : Nat) : Int) := by rw [shr32 (by omega)]; omega
    have q7 : abits .and .u64 (v : Int) 4294967295 = ((v % 4294967296 : Nat) : Int) := by rw [low32 (by omega) (by omega)]; omega
    obtain ⟨f1, f2⟩ := two_digits (hi * 18446744073709551616 + lo) y s yy u v hyy (by omega) u3 v1 _ _ rfl rfl
    rw [f1, f2]
    have s0 : s ≤ 64 := by omega
    clear hA hA' u2 u3 hu hv hyy p0 hs n0 n1 f1 f2 hl hy h1
    have nz : ((yy / 4294967296 : Nat) : Int) ≠ 0 := by omega
    have r1 := div_c u (yy / 4294967296) (by omega)
    have r2 := left_c u (yy / 4294967296) (by omega)
    obtain ⟨D0, D1⟩ := Dig.init n2 n3 u1 (d := v / 4294967296) (by omega)
    generalize u / (yy / 4294967296) = qa at r1 r2 D0
    generalize u % (yy / 4294967296) = ra at r2 D0 D1
    repeat' (first | contradiction | (with_reducible refine Al.intro ?_; intro b hb; (try simp only [hupd_none'] at hb); (repeat rcases hb with ⟨⟨hx, hy⟩, hb⟩)) | with_reducible refine Need.intro (by first | omega | (with_reducible assumption) | (simp only [List.length_map, List.length_cons, List.length_nil]; omega) | (refine ⟨?_, ?_⟩ <;> omega) | (refine ⟨?_, ?_, ?_⟩ <;> omega) | (simp; done) | (simp; omega)) ?_ | (with_reducible refine condA_dec _ _ _ (fun h => ?_) (fun h => ?_) <;> try (exfalso; omega)) | (with_reducible refine condA_beq _ _ _ _ (fun h => ?_) (fun h => ?_) <;> try (exfalso; omega)) | (with_reducible refine condA_bne _ _ _ _ (fun h => ?_) (fun h => ?_) <;> try (exfalso; omega)) | (with_reducible refine condA_nt _ _ _ (fun h => ?_) (fun h => ?_) <;> try (exfalso; omega)) | (with_reducible refine condA_bool _ _ _ (fun h => ?_) (fun h => ?_) <;> try (exfalso; omega)) | (with_reducible refine gV_dec _ _ _ _ (fun h => ?_) (fun h => ?_) <;> try (exfalso; omega)) | (with_reducible refine gV_beq _ _ _ _ _ (fun h => ?_) (fun h => ?_) <;> try (exfalso; omega)) | (with_reducible refine gV_bne _ _ _ _ _ (fun h => ?_) (fun h => ?_) <;> try (exfalso; omega)) | (with_reducible refine gV_true _ _ _ (fun h => ?_) (fun h => ?_) <;> try (exfalso; omega)) | (with_reducible refine gV_false _ _ _ (fun h => ?_) (fun h => ?_) <;> try (exfalso; omega)) | with_reducible refine awp_drawnA mixed (by decide +kernel) ?_ | ((fail_if_success with_reducible refine isCall ?_); (fail_if_success with_reducible refine isAWP ?_); (fail_if_success with_reducible refine isPart ?_); (fail_if_success with_reducible refine isAgain ?_); simp -implicitDefEqProofs only [go_sem, Nat.reduceEqDiff, Nat.reduceAdd, Nat.reduceLT, Nat.reduceMul, Nat.reduceSub, Nat.reduceLeDiff, ↓reduceIte, reduceCtorEq, ↓String.reduceEq, String.reduceNe,  mkRes, autoOrd, ordG, effs, isLook, isEff, Stab_none, exitA_ret, exitA_normal, exitA_goto, exitA_exit, ↓run_scope, ↓run_goto, ↓run_label, thenA_goto, blockA_goto, jumpA_normal, jumpA_ret, jumpA_exit, jumpA_goto, List.take_succ_cons, *]))
    refine awp_loopP 0 (fun ts m9 => ts 2 = .int .u64 (yy : Int) ∧ ts 8 = .int .u64 (s : Int) ∧ ts 9 = .int .u64 ((yy / 4294967296 : Nat) : Int) ∧ ts 10 = .int .u64 ((yy % 4294967296 : Nat) : Int) ∧ ts 11 = .int .u64 (u : Int) ∧ ts 13 = .int .u64 ((v / 4294967296 : Nat) : Int) ∧ ts 14 = .int .u64 ((v % 4294967296 : Nat) : Int) ∧ ts 15 = .int .u64 (((u * 4294967296 + v / 4294967296) / yy : Nat) : Int) ∧ (u * 4294967296 + v / 4294967296) / yy < 4294967296 ∧ m9 = m)
      (fun k ts m9 => ∃ q r : Nat, k = q ∧ Dig yy u (v / 4294967296) q r ∧ r < 4294967296 ∧ ts 2 = .int .u64 (yy : Int) ∧ ts 8 = .int .u64 (s : Int) ∧ ts 9 = .int .u64 ((yy / 4294967296 : Nat) : Int) ∧ ts 10 = .int .u64 ((yy % 4294967296 : Nat) : Int) ∧ ts 11 = .int .u64 (u : Int) ∧ ts 13 = .int .u64 ((v / 4294967296 : Nat) : Int) ∧ ts 14 = .int .u64 ((v % 4294967296 : Nat) : Int) ∧ ts 15 = .int .u64 (q : Int) ∧ ts 16 = .int .u64 (r : Int) ∧ m9 = m) qa
      ⟨qa, ra, rfl, D0, D1, by simp [upd, put], by simp [upd, put], by simp [upd, put], by simp [upd, put], by simp [upd, put], by simp [upd, put], by simp [upd, put], by simp [upd, put], by simp [upd, put], rfl⟩ ?_ ?_
    · clear D0 D1 r1 r2 q1 q2 q3 q4 q5 q6 q7 es
      rintro k ts m' ⟨q, r, rfl, D, hr, t2, t8, t9, t10, t11, t13, t14, tq, t16, rfl⟩
      obtain ⟨c0, c1, c2, c3⟩ := D.top
      have w1 : IntKind.u64.wrap (4294967296 * (r : Int)) = ((4294967296 * r : Nat) : Int) := wrap_c (4294967296 * r) (by omega)
      have w2 : IntKind.u64.wrap (((4294967296 * r : Nat) : Int) + ((v / 4294967296 : Nat) : Int)) = ((4294967296 * r + v / 4294967296 : Nat) : Int) := wrap_c (4294967296 * r + v / 4294967296) (by omega)
      have w3 : IntKind.u64.wrap ((r : Int) + ((yy / 4294967296 : Nat) : Int)) = ((r + yy / 4294967296 : Nat) : Int) := wrap_c (r + yy / 4294967296) (by omega)
      clear c3
      have mk : k < 4294967296 → IntKind.u64.wrap ((k : Int) * ((yy % 4294967296 : Nat) : Int)) = ((k * (yy % 4294967296) : Nat) : Int) := by
        intro hk
        have : k * (yy % 4294967296) ≤ 4294967295 * 4294967295 := Nat.mul_le_mul (by omega) (by omega)
        have e := wrap_c (k * (yy % 4294967296)) (by omega)
        rw [← e]; simp
      have sk : 1 ≤ k → IntKind.u64.wrap ((k : Int) - 1) = ((k - 1 : Nat) : Int) := by
        intro hk
        have := D.le
        rw [wrap_u64' (by omega) (by omega)]; omega
      repeat' (first | contradiction | (with_reducible refine Al.intro ?_; intro b hb; (try simp only [hupd_none'] at hb); (repeat rcases hb with ⟨⟨hx, hy⟩, hb⟩)) | with_reducible refine Need.intro (by first | omega | (with_reducible assumption) | (simp only [List.length_map, List.length_cons, List.length_nil]; omega) | (refine ⟨?_, ?_⟩ <;> omega) | (refine ⟨?_, ?_, ?_⟩ <;> omega) | (simp; done) | (simp; omega)) ?_ | (with_reducible refine condA_dec _ _ _ (fun h => ?_) (fun h => ?_) <;> try (exfalso; omega)) | (with_reducible refine condA_beq _ _ _ _ (fun h => ?_) (fun h => ?_) <;> try (exfalso; omega)) | (with_reducible refine condA_bne _ _ _ _ (fun h => ?_) (fun h => ?_) <;> try (exfalso; omega)) | (with_reducible refine condA_nt _ _ _ (fun h => ?_) (fun h => ?_) <;> try (exfalso; omega)) | (with_reducible refine condA_bool _ _ _ (fun h => ?_) (fun h => ?_) <;> try (exfalso; omega)) | (with_reducible refine gV_dec _ _ _ _ (fun h => ?_) (fun h => ?_) <;> try (exfalso; omega)) | (with_reducible refine gV_beq _ _ _ _ _ (fun h => ?_) (fun h => ?_) <;> try (exfalso; omega)) | (with_reducible refine gV_bne _ _ _ _ _ (fun h => ?_) (fun h => ?_) <;> try (exfalso; omega)) | (with_reducible refine gV_true _ _ _ (fun h => ?_) (fun h => ?_) <;> try (exfalso; omega)) | (with_reducible refine gV_false _ _ _ (fun h => ?_) (fun h => ?_) <;> try (exfalso; omega)) | with_reducible refine awp_drawnA mixed (by decide +kernel) ?_ | ((fail_if_success with_reducible refine isCall ?_); (fail_if_success with_reducible refine isAWP ?_); (fail_if_success with_reducible refine isPart ?_); (fail_if_success with_reducible refine isAgain ?_); simp -implicitDefEqProofs only [go_sem, Nat.reduceEqDiff, Nat.reduceAdd, Nat.reduceLT, Nat.reduceMul, Nat.reduceSub, Nat.reduceLeDiff, ↓reduceIte, reduceCtorEq, ↓String.reduceEq, String.reduceNe,  mkRes, autoOrd, ordG, effs, isLook, isEff, Stab_none, exitA_ret, exitA_normal, exitA_goto, exitA_exit, ↓run_scope, ↓run_goto, ↓run_label, thenA_goto, blockA_goto, jumpA_normal, jumpA_ret, jumpA_exit, jumpA_goto, List.take_succ_cons, *]))
      · rename_i e1 e2
        obtain ⟨D', k1⟩ := D.step (.inl (by omega))
        have f := D'.fin2 (by have := D.le; omega) (by omega)
        exact Again.intro ⟨by simp [upd, put, t2], by simp [upd, put, t8], by simp [upd, put, t9], by simp [upd, put, t10], by simp [upd, put, t11], by simp [upd, put, t13], by simp [upd, put, t14], by simp [upd, put, sk k1, f], by rw [← f]; exact D'.lt f, rfl⟩
      · rename_i e1 e2
        obtain ⟨D', k1⟩ := D.step (.inl (by omega))
        exact Again.intro ⟨k - 1, by omega, m', Sub.refl _, k - 1, r + yy / 4294967296, rfl, D', by omega, by simp [upd, put, t2], by simp [upd, put, t8], by simp [upd, put, t9], by simp [upd, put, t10], by simp [upd, put, t11], by simp [upd, put, t13], by simp [upd, put, t14], by simp [upd, put, sk k1], by simp [upd, put, w3], rfl⟩
      · rename_i e1 e2 e3
        rw [mk (by omega)] at e3
        obtain ⟨D', k1⟩ := D.step (.inr (by omega))
        have f := D'.fin2 (by have := D.le; omega) (by omega)
        exact Again.intro ⟨by simp [upd, put, t2], by simp [upd, put, t8], by simp [upd, put, t9], by simp [upd, put, t10], by simp [upd, put, t11], by simp [upd, put, t13], by simp [upd, put, t14], by simp [upd, put, sk k1, f], by rw [← f]; exact D'.lt f, rfl⟩
      · rename_i e1 e2 e3
        rw [mk (by omega)] at e3
        obtain ⟨D', k1⟩ := D.step (.inr (by omega))
        exact Again.intro ⟨k - 1, by omega, m', Sub.refl _, k - 1, r + yy / 4294967296, rfl, D', by omega, by simp [upd, put, t2], by simp [upd, put, t8], by simp [upd, put, t9], by simp [upd, put, t10], by simp [upd, put, t11], by simp [upd, put, t13], by simp [upd, put, t14], by simp [upd, put, sk k1], by simp [upd, put, w3], rfl⟩
      · rename_i h e1 e2
        rw [mk (by omega)] at h
        have f := D.fin (by omega)
        exact Again.intro ⟨by simp [upd, put, t2], by simp [upd, put, t8], by simp [upd, put, t9], by simp [upd, put, t10], by simp [upd, put, t11], by simp [upd, put, t13], by simp [upd, put, t14], by simp [upd, put, tq, f], by rw [← f]; exact D.lt f, rfl⟩
    · clear D0 D1 r1 r2 q1 q2 q3 q4 q5 q6 q7 es
      rintro ts m' ⟨t2, t8, t9, t10, t11, t13, t14, tq, hlt0, rfl⟩
      have x1 := dig_rest yy u (v / 4294967296) n3 (by omega)
      have l1 := Nat.mod_lt (u * 4294967296 + v / 4294967296) (show 0 < yy by omega)
      obtain ⟨Q1, hQ1⟩ : ∃ Q1, Q1 = (u * 4294967296 + v / 4294967296) / yy := ⟨_, rfl⟩
      obtain ⟨w, hw⟩ : ∃ w, w = (u * 4294967296 + v / 4294967296) % yy := ⟨_, rfl⟩
      rw [← hQ1, ← hw] at x1 ⊢
      rw [← hQ1] at tq hlt0
      rw [← hw] at l1
      clear hQ1 hw
      have r1 := div_c w (yy / 4294967296) (by omega)
      have r2 := left_c w (yy / 4294967296) (by omega)
      obtain ⟨D0, D1⟩ := Dig.init n2 n3 l1 (d := v % 4294967296) (by omega)
      generalize w / (yy / 4294967296) = qb at r1 r2 D0
      generalize w % (yy / 4294967296) = rb at r2 D0 D1
      repeat' (first | contradiction | (with_reducible refine Al.intro ?_; intro b hb; (try simp only [hupd_none'] at hb); (repeat rcases hb with ⟨⟨hx, hy⟩, hb⟩)) | with_reducible refine Need.intro (by first | omega | (with_reducible assumption) | (simp only [List.length_map, List.length_cons, List.length_nil]; omega) | (refine ⟨?_, ?_⟩ <;> omega) | (refine ⟨?_, ?_, ?_⟩ <;> omega) | (simp; done) | (simp; omega)) ?_ | (with_reducible refine condA_dec _ _ _ (fun h => ?_) (fun h => ?_) <;> try (exfalso; omega)) | (with_reducible refine condA_beq _ _ _ _ (fun h => ?_) (fun h => ?_) <;> try (exfalso; omega)) | (with_reducible refine condA_bne _ _ _ _ (fun h => ?_) (fun h => ?_) <;> try (exfalso; omega)) | (with_reducible refine condA_nt _ _ _ (fun h => ?_) (fun h => ?_) <;> try (exfalso; omega)) | (with_reducible refine condA_bool _ _ _ (fun h => ?_) (fun h => ?_) <;> try (exfalso; omega)) | (with_reducible refine gV_dec _ _ _ _ (fun h => ?_) (fun h => ?_) <;> try (exfalso; omega)) | (with_reducible refine gV_beq _ _ _ _ _ (fun h => ?_) (fun h => ?_) <;> try (exfalso; omega)) | (with_reducible refine gV_bne _ _ _ _ _ (fun h => ?_) (fun h => ?_) <;> try (exfalso; omega)) | (with_reducible refine gV_true _ _ _ (fun h => ?_) (fun h => ?_) <;> try (exfalso; omega)) | (with_reducible refine gV_false _ _ _ (fun h => ?_) (fun h => ?_) <;> try (exfalso; omega)) | with_reducible refine awp_drawnA mixed (by decide +kernel) ?_ | ((fail_if_success with_reducible refine isCall ?_); (fail_if_success with_reducible refine isAWP ?_); (fail_if_success with_reducible refine isPart ?_); (fail_if_success with_reducible refine isAgain ?_); simp -implicitDefEqProofs only [go_sem, Nat.reduceEqDiff, Nat.reduceAdd, Nat.reduceLT, Nat.reduceMul, Nat.reduceSub, Nat.reduceLeDiff, ↓reduceIte, reduceCtorEq, ↓String.reduceEq, String.reduceNe,  mkRes, autoOrd, ordG, effs, isLook, isEff, Stab_none, exitA_ret, exitA_normal, exitA_goto, exitA_exit, ↓run_scope, ↓run_goto, ↓run_label, thenA_goto, blockA_goto, jumpA_normal, jumpA_ret, jumpA_exit, jumpA_goto, List.take_succ_cons, *]))
      refine awp_loopP 2 (fun ts m9 => ts 2 = .int .u64 (yy : Int) ∧ ts 8 = .int .u64 (s : Int) ∧ ts 9 = .int .u64 ((yy / 4294967296 : Nat) : Int) ∧ ts 10 = .int .u64 ((yy % 4294967296 : Nat) : Int) ∧ ts 14 = .int .u64 ((v % 4294967296 : Nat) : Int) ∧ ts 15 = .int .u64 (Q1 : Int) ∧ ts 17 = .int .u64 (w : Int) ∧ ts 18 = .int .u64 (((w * 4294967296 + v % 4294967296) / yy : Nat) : Int) ∧ (w * 4294967296 + v % 4294967296) / yy < 4294967296 ∧ m9 = m')
        (fun k ts m9 => ∃ q r : Nat, k = q ∧ Dig yy w (v % 4294967296) q r ∧ r < 4294967296 ∧ ts 2 = .int .u64 (yy : Int) ∧ ts 8 = .int .u64 (s : Int) ∧ ts 9 = .int .u64 ((yy / 4294967296 : Nat) : Int) ∧ ts 10 = .int .u64 ((yy % 4294967296 : Nat) : Int) ∧ ts 14 = .int .u64 ((v % 4294967296 : Nat) : Int) ∧ ts 15 = .int .u64 (Q1 : Int) ∧ ts 17 = .int .u64 (w : Int) ∧ ts 18 = .int .u64 (q : Int) ∧ ts 16 = .int .u64 (r : Int) ∧ m9 = m') qb
        ⟨qb, rb, rfl, D0, D1, by simp [upd, put, t2, t8, t9, t10, t14, tq], by simp [upd, put, t2, t8, t9, t10, t14, tq], by simp [upd, put, t2, t8, t9, t10, t14, tq], by simp [upd, put, t2, t8, t9, t10, t14, tq], by simp [upd, put, t2, t8, t9, t10, t14, tq], by simp [upd, put, t2, t8, t9, t10, t14, tq], by simp [upd, put, t2, t8, t9, t10, t14, tq], by simp [upd, put], by simp [upd, put], rfl⟩ ?_ ?_
      · clear D0 D1 r1 r2 x1
        rintro k ts m3 ⟨q, r, rfl, D, hr, t2, t8, t9, t10, t14, t15, t17, tq, t16, rfl⟩
        obtain ⟨c0, c1, c2, c3⟩ := D.top
        have w1 : IntKind.u64.wrap (4294967296 * (r : Int)) = ((4294967296 * r : Nat) : Int) := wrap_c (4294967296 * r) (by omega)
        have w2 : IntKind.u64.wrap (((4294967296 * r : Nat) : Int) + ((v % 4294967296 : Nat) : Int)) = ((4294967296 * r + v % 4294967296 : Nat) : Int) := wrap_c (4294967296 * r + v % 4294967296) (by omega)
        have w3 : IntKind.u64.wrap ((r : Int) + ((yy / 4294967296 : Nat) : Int)) = ((r + yy / 4294967296 : Nat) : Int) := wrap_c (r + yy / 4294967296) (by omega)
        clear c3
        have mk : k < 4294967296 → IntKind.u64.wrap ((k : Int) * ((yy % 4294967296 : Nat) : Int)) = ((k * (yy % 4294967296) : Nat) : Int) := by
          intro hk
          have : k * (yy % 4294967296) ≤ 4294967295 * 4294967295 := Nat.mul_le_mul (by omega) (by omega)
          have e := wrap_c (k * (yy % 4294967296)) (by omega)
          rw [← e]; simp
        have sk : 1 ≤ k → IntKind.u64.wrap ((k : Int) - 1) = ((k - 1 : Nat) : Int) := by
          intro hk
          have := D.le
          rw [wrap_u64' (by omega) (by omega)]; omega
        repeat' (first | contradiction | (with_reducible refine Al.intro ?_; intro b hb; (try simp only [hupd_none'] at hb); (repeat rcases hb with ⟨⟨hx, hy⟩, hb⟩)) | with_reducible refine Need.intro (by first | omega | (with_reducible assumption) | (simp only [List.length_map, List.length_cons, List.length_nil]; omega) | (refine ⟨?_, ?_⟩ <;> omega) | (refine ⟨?_, ?_, ?_⟩ <;> omega) | (simp; done) | (simp; omega)) ?_ | (with_reducible refine condA_dec _ _ _ (fun h => ?_) (fun h => ?_) <;> try (exfalso; omega)) | (with_reducible refine condA_beq _ _ _ _ (fun h => ?_) (fun h => ?_) <;> try (exfalso; omega)) | (with_reducible refine condA_bne _ _ _ _ (fun h => ?_) (fun h => ?_) <;> try (exfalso; omega)) | (with_reducible refine condA_nt _ _ _ (fun h => ?_) (fun h => ?_) <;> try (exfalso; omega)) | (with_reducible refine condA_bool _ _ _ (fun h => ?_) (fun h => ?_) <;> try (exfalso; omega)) | (with_reducible refine gV_dec _ _ _ _ (fun h => ?_) (fun h => ?_) <;> try (exfalso; omega)) | (with_reducible refine gV_beq _ _ _ _ _ (fun h => ?_) (fun h => ?_) <;> try (exfalso; omega)) | (with_reducible refine gV_bne _ _ _ _ _ (fun h => ?_) (fun h => ?_) <;> try (exfalso; omega)) | (with_reducible refine gV_true _ _ _ (fun h => ?_) (fun h => ?_) <;> try (exfalso; omega)) | (with_reducible refine gV_false _ _ _ (fun h => ?_) (fun h => ?_) <;> try (exfalso; omega)) | with_reducible refine awp_drawnA mixed (by decide +kernel) ?_ | ((fail_if_success with_reducible refine isCall ?_); (fail_if_success with_reducible refine isAWP ?_); (fail_if_success with_reducible refine isPart ?_); (fail_if_success with_reducible refine isAgain ?_); simp -implicitDefEqProofs only [go_sem, Nat.reduceEqDiff, Nat.reduceAdd, Nat.reduceLT, Nat.reduceMul, Nat.reduceSub, Nat.reduceLeDiff, ↓reduceIte, reduceCtorEq, ↓String.reduceEq, String.reduceNe,  mkRes, autoOrd, ordG, effs, isLook, isEff, Stab_none, exitA_ret, exitA_normal, exitA_goto, exitA_exit, ↓run_scope, ↓run_goto, ↓run_label, thenA_goto, blockA_goto, jumpA_normal, jumpA_ret, jumpA_exit, jumpA_goto, List.take_succ_cons, *]))
        · rename_i e1 e2
          obtain ⟨D', k1⟩ := D.step (.inl (by omega))
          have f := D'.fin2 (by have := D.le; omega) (by omega)
          exact Again.intro ⟨by simp [upd, put, t2], by simp [upd, put, t8], by simp [upd, put, t9], by simp [upd, put, t10], by simp [upd, put, t14], by simp [upd, put, t15], by simp [upd, put, t17], by simp [upd, put, sk k1, f], by rw [← f]; exact D'.lt f, rfl⟩
        · rename_i e1 e2
          obtain ⟨D', k1⟩ := D.step (.inl (by omega))
          exact Again.intro ⟨k - 1, by omega, m3, Sub.refl _, k - 1, r + yy / 4294967296, rfl, D', by omega, by simp [upd, put, t2], by simp [upd, put, t8], by simp [upd, put, t9], by simp [upd, put, t10], by simp [upd, put, t14], by simp [upd, put, t15], by simp [upd, put, t17], by simp [upd, put, sk k1], by simp [upd, put, w3], rfl⟩
        · rename_i e1 e2 e3
          rw [mk (by omega)] at e3
          obtain ⟨D', k1⟩ := D.step (.inr (by omega))
          have f := D'.fin2 (by have := D.le; omega) (by omega)
          exact Again.intro ⟨by simp [upd, put, t2], by simp [upd, put, t8], by simp [upd, put, t9], by simp [upd, put, t10], by simp [upd, put, t14], by simp [upd, put, t15], by simp [upd, put, t17], by simp [upd, put, sk k1, f], by rw [← f]; exact D'.lt f, rfl⟩
        · rename_i e1 e2 e3
          rw [mk (by omega)] at e3
          obtain ⟨D', k1⟩ := D.step (.inr (by omega))
          exact Again.intro ⟨k - 1, by omega, m3, Sub.refl _, k - 1, r + yy / 4294967296, rfl, D', by omega, by simp [upd, put, t2], by simp [upd, put, t8], by simp [upd, put, t9], by simp [upd, put, t10], by simp [upd, put, t14], by simp [upd, put, t15], by simp [upd, put, t17], by simp [upd, put, sk k1], by simp [upd, put, w3], rfl⟩
        · rename_i h e1 e2
          rw [mk (by omega)] at h
          have f := D.fin (by omega)
          exact Again.intro ⟨by simp [upd, put, t2], by simp [upd, put, t8], by simp [upd, put, t9], by simp [upd, put, t10], by simp [upd, put, t14], by simp [upd, put, t15], by simp [upd, put, t17], by simp [upd, put, tq, f], by rw [← f]; exact D.lt f, rfl⟩
      · clear D0 D1 r1 r2 x1
        rintro ts m3 ⟨t2, t8, t9, t10, t14, t15, t17, tq, hlt2, rfl⟩
        have x2 := dig_rest yy w (v % 4294967296) n3 (by omega)
        have l2 := Nat.mod_lt (w * 4294967296 + v % 4294967296) (show 0 < yy by omega)
        obtain ⟨Q0, hQ0⟩ : ∃ Q0, Q0 = (w * 4294967296 + v % 4294967296) / yy := ⟨_, rfl⟩
        obtain ⟨z, hz⟩ : ∃ z, z = (w * 4294967296 + v % 4294967296) % yy := ⟨_, rfl⟩
        rw [← hQ0, ← hz] at x2 ⊢
        rw [← hQ0] at tq hlt2
        rw [← hz] at l2
        clear hQ0 hz
        have x3 : IntKind.u64.wrap ((Q1 : Int) * 4294967296) = ((Q1 * 4294967296 : Nat) : Int) := wrap_c (Q1 * 4294967296) (by omega)
        have x4 : IntKind.u64.wrap (((Q1 * 4294967296 : Nat) : Int) + (Q0 : Int)) = ((Q1 * 4294967296 + Q0 : Nat) : Int) := wrap_c (Q1 * 4294967296 + Q0) (by omega)
        have x5 : ashr .u64 (z : Int) (s : Int) = ((z / 2 ^ s : Nat) : Int) := by
          rw [shr_u64 (by omega) (by omega) (by omega), Int.toNat_natCast]; simp
        repeat' (first | contradiction | (with_reducible refine Al.intro ?_; intro b hb; (try simp only [hupd_none'] at hb); (repeat rcases hb with ⟨⟨hx, hy⟩, hb⟩)) | with_reducible refine Need.intro (by first | omega | (with_reducible assumption) | (simp only [List.length_map, List.length_cons, List.length_nil]; omega) | (refine ⟨?_, ?_⟩ <;> omega) | (refine ⟨?_, ?_, ?_⟩ <;> omega) | (simp; done) | (simp; omega)) ?_ | (with_reducible refine condA_dec _ _ _ (fun h => ?_) (fun h => ?_) <;> try (exfalso; omega)) | (with_reducible refine condA_beq _ _ _ _ (fun h => ?_) (fun h => ?_) <;> try (exfalso; omega)) | (with_reducible refine condA_bne _ _ _ _ (fun h => ?_) (fun h => ?_) <;> try (exfalso; omega)) | (with_reducible refine condA_nt _ _ _ (fun h => ?_) (fun h => ?_) <;> try (exfalso; omega)) | (with_reducible refine condA_bool _ _ _ (fun h => ?_) (fun h => ?_) <;> try (exfalso; omega)) | (with_reducible refine gV_dec _ _ _ _ (fun h => ?_) (fun h => ?_) <;> try (exfalso; omega)) | (with_reducible refine gV_beq _ _ _ _ _ (fun h => ?_) (fun h => ?_) <;> try (exfalso; omega)) | (with_reducible refine gV_bne _ _ _ _ _ (fun h => ?_) (fun h => ?_) <;> try (exfalso; omega)) | (with_reducible refine gV_true _ _ _ (fun h => ?_) (fun h => ?_) <;> try (exfalso; omega)) | (with_reducible refine gV_false _ _ _ (fun h => ?_) (fun h => ?_) <;> try (exfalso; omega)) | with_reducible refine awp_drawnA mixed (by decide +kernel) ?_ | ((fail_if_success with_reducible refine isCall ?_); (fail_if_success with_reducible refine isAWP ?_); (fail_if_success with_reducible refine isPart ?_); (fail_if_success with_reducible refine isAgain ?_); simp -implicitDefEqProofs only [go_sem, Nat.reduceEqDiff, Nat.reduceAdd, Nat.reduceLT, Nat.reduceMul, Nat.reduceSub, Nat.reduceLeDiff, ↓reduceIte, reduceCtorEq, ↓String.reduceEq, String.reduceNe,  mkRes, autoOrd, ordG, effs, isLook, isEff, Stab_none, exitA_ret, exitA_normal, exitA_goto, exitA_exit, ↓run_scope, ↓run_goto, ↓run_label, thenA_goto, blockA_goto, jumpA_normal, jumpA_ret, jumpA_exit, jumpA_goto, List.take_succ_cons, *]))
        exact ⟨m3, Sub.refl _, rfl, rfl⟩
end Go.Proofs.Ythdglblbdobmoaa
