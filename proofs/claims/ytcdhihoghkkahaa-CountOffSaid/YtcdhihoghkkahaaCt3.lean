/- CountOff's walk. -/
import Derived.Test.YtcdhihoghkkahaaCt2
set_option linter.all false
namespace Go.Proofs.Ytcdhihoghkkahaa
open Go Go.Proofs.Ytcdhihoghkkahaa.Ab
open Go.Proofs (Try.prog)
set_option maxRecDepth 100000
def after : Nat → C3
  | 0 => (0, 0, false)
  | n + 1 => txFailF (after n)
theorem mode_after : ∀ K : Fin 40, modeF (after K.val) = if K.val ≥ 32 then 2 else if K.val ≥ 16 then 1 else 0 := by decide +kernel
theorem countOff_spec (G : Nat → AVal) (n : Int) (hn : 0 ≤ n ∧ n ≤ 255) : Ans G 5 [.int .u8 n] (.bool true) := by
  intro m
  refine callWP_body Try.func5 rfl (N := 28) rfl (rs := [.tmp 2]) rfl en_5 (of_decide_eq_true rfl) ?_
  iterate 12 (all_goals try first | contradiction | (with_reducible refine Al.intro ?_; intro b hb; (try simp only [hupd_none'] at hb); (repeat rcases hb with ⟨⟨hx, hy⟩, hb⟩)) | with_reducible refine condA_bool _ _ _ (fun h => ?_) (fun h => ?_) | with_reducible refine gV_true _ _ _ (fun h => ?_) (fun h => ?_) | with_reducible refine gV_false _ _ _ (fun h => ?_) (fun h => ?_) | ((fail_if_success with_reducible refine isCall ?_); (fail_if_success with_reducible refine isAWP ?_); (fail_if_success with_reducible refine isPart ?_); simp -implicitDefEqProofs only [go_sem, Nat.reduceEqDiff, Nat.reduceAdd, Nat.reduceLT, Nat.reduceMul, Nat.reduceSub, Nat.reduceLeDiff, ↓reduceIte, reduceCtorEq, ↓String.reduceEq, String.reduceNe,  enc, *]))
  refine ⟨by decide, ?_⟩
  obtain ⟨K, hK, hlt⟩ : ∃ K : Nat, (IntKind.i64.wrap n).tmod 40 = (K : Int) ∧ K < 40 := by
    rw [wrap_small (by omega) (by omega)]
    exact ⟨n.toNat % 40, by rw [Int.tmod_eq_emod_of_nonneg hn.1]; omega, by omega⟩
  rw [hK]
  refine awp_loop (fun k ts m' => ∃ i : Nat, k = K - i ∧ i ≤ K ∧ ts 3 = .ptr b 0 ∧ ts 4 = .int .i64 K ∧ ts 5 = .int .i64 i ∧ m' = hupd m b (.cells [.int .i64 (after i).1, .int .i64 (after i).2.1, .bool (after i).2.2] 3)) K
    ⟨0, rfl, Nat.zero_le _, by simp [upd, put], by simp [upd, put], by simp [upd, put], rfl⟩ ?_
  rintro k ts m' ⟨i, rfl, hi, h3, h4, h5, rfl⟩
  iterate 12 (all_goals try first | contradiction | (with_reducible refine Al.intro ?_; intro b hb; (try simp only [hupd_none'] at hb); (repeat rcases hb with ⟨⟨hx, hy⟩, hb⟩)) | with_reducible refine condA_bool _ _ _ (fun h => ?_) (fun h => ?_) | with_reducible refine gV_true _ _ _ (fun h => ?_) (fun h => ?_) | with_reducible refine gV_false _ _ _ (fun h => ?_) (fun h => ?_) | ((fail_if_success with_reducible refine isCall ?_); (fail_if_success with_reducible refine isAWP ?_); (fail_if_success with_reducible refine isPart ?_); simp -implicitDefEqProofs only [go_sem, Nat.reduceEqDiff, Nat.reduceAdd, Nat.reduceLT, Nat.reduceMul, Nat.reduceSub, Nat.reduceLeDiff, ↓reduceIte, reduceCtorEq, ↓String.reduceEq, String.reduceNe,  enc, *]))
  · refine CallWP.to (txFail_spec G (after i) _) ?_
    iterate 12 (all_goals try first | contradiction | (with_reducible refine Al.intro ?_; intro b hb; (try simp only [hupd_none'] at hb); (repeat rcases hb with ⟨⟨hx, hy⟩, hb⟩)) | with_reducible refine condA_bool _ _ _ (fun h => ?_) (fun h => ?_) | with_reducible refine gV_true _ _ _ (fun h => ?_) (fun h => ?_) | with_reducible refine gV_false _ _ _ (fun h => ?_) (fun h => ?_) | ((fail_if_success with_reducible refine isCall ?_); (fail_if_success with_reducible refine isAWP ?_); (fail_if_success with_reducible refine isPart ?_); simp -implicitDefEqProofs only [go_sem, Nat.reduceEqDiff, Nat.reduceAdd, Nat.reduceLT, Nat.reduceMul, Nat.reduceSub, Nat.reduceLeDiff, ↓reduceIte, reduceCtorEq, ↓String.reduceEq, String.reduceNe,  enc, *]))
    refine ⟨K - (i + 1), by simp at h; omega, i + 1, rfl, by simp at h; omega, ?_, rfl⟩
    rw [wrap_small (by omega) (by omega)]; rfl
  all_goals refine CallWP.to (live_spec G _) ?_
  all_goals iterate 12 (all_goals try first | contradiction | (with_reducible refine Al.intro ?_; intro b hb; (try simp only [hupd_none'] at hb); (repeat rcases hb with ⟨⟨hx, hy⟩, hb⟩)) | with_reducible refine condA_bool _ _ _ (fun h => ?_) (fun h => ?_) | with_reducible refine gV_true _ _ _ (fun h => ?_) (fun h => ?_) | with_reducible refine gV_false _ _ _ (fun h => ?_) (fun h => ?_) | ((fail_if_success with_reducible refine isCall ?_); (fail_if_success with_reducible refine isAWP ?_); (fail_if_success with_reducible refine isPart ?_); simp -implicitDefEqProofs only [go_sem, Nat.reduceEqDiff, Nat.reduceAdd, Nat.reduceLT, Nat.reduceMul, Nat.reduceSub, Nat.reduceLeDiff, ↓reduceIte, reduceCtorEq, ↓String.reduceEq, String.reduceNe,  enc, *]))
  all_goals refine CallWP.to (mode_spec G (after i) _) ?_
  all_goals iterate 12 (all_goals try first | contradiction | (with_reducible refine Al.intro ?_; intro b hb; (try simp only [hupd_none'] at hb); (repeat rcases hb with ⟨⟨hx, hy⟩, hb⟩)) | with_reducible refine condA_bool _ _ _ (fun h => ?_) (fun h => ?_) | with_reducible refine gV_true _ _ _ (fun h => ?_) (fun h => ?_) | with_reducible refine gV_false _ _ _ (fun h => ?_) (fun h => ?_) | ((fail_if_success with_reducible refine isCall ?_); (fail_if_success with_reducible refine isAWP ?_); (fail_if_success with_reducible refine isPart ?_); simp -implicitDefEqProofs only [go_sem, Nat.reduceEqDiff, Nat.reduceAdd, Nat.reduceLT, Nat.reduceMul, Nat.reduceSub, Nat.reduceLeDiff, ↓reduceIte, reduceCtorEq, ↓String.reduceEq, String.reduceNe,  enc, *]))
  all_goals refine ⟨m, (by (repeat refine Sub.fresh ?_ (by assumption)); exact Sub.refl m), ?_, rfl⟩
  all_goals
    have e : i = K := by simp at *; omega
    subst e
    have := mode_after ⟨i, hlt⟩
    simp only at this
    rw [this]
    congr 1
    simp at *
    repeat' split
    all_goals first | rfl | omega
end Go.Proofs.Ytcdhihoghkkahaa
