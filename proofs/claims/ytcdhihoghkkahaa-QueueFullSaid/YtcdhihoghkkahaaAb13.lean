/- Drawn regions: the order is anybody's, so far as it changes nothing. -/
import Derived.Test.YtcdhihoghkkahaaAb12
import Derived.OrdersIn
set_option linter.all false
namespace Go.Proofs.Ytcdhihoghkkahaa.Ab
open Go

/-! ### What is asked behind may be less -/
def D.Mono (d : D) : Prop := ∀ (m : Heap) (K K' : AVal → Heap → Prop), (∀ v m', K v m' → K' v m') → d.run m K → d.run m K'
def D.noEff : D → Bool
  | .eff _ => false
  | _ => true
theorem D.Mono.of {d : D} (h : d.noEff = true) : d.Mono := by
  intro m K K' hk hr
  cases d with
  | fail => exact hr
  | pure c v => exact ⟨hr.1, hk _ _ hr.2⟩
  | read p c f =>
    simp only [D.run] at hr ⊢
    split at hr
    · exact ⟨hr.1, hk _ _ hr.2⟩
    · exact hr
  | alloc c x mk => exact ⟨hr.1, fun b hb => hk _ _ (hr.2 b hb)⟩
  | write p c f v =>
    simp only [D.run] at hr ⊢
    split at hr
    · exact ⟨hr.1, hk _ _ hr.2⟩
    · exact hr
  | eff T => simp [D.noEff] at h

theorem src_mono {sz : Nat} {m : Heap} {x : AVal} {k k' : Nat → List AVal → Prop} (h : ∀ n ys, k n ys → k' n ys) (hs : src sz m x k) : src sz m x k' := by
  unfold src at hs ⊢
  split
  · exact h _ _ hs
  · exact ⟨hs.1, h _ _ hs.2⟩
  · simp only at hs
    split at hs
    · exact ⟨hs.1, h _ _ hs.2⟩
    · exact hs
  · simp_all
theorem aappend_mono {P : Program} {st xt : TypeId} {s x : AVal} : (D.eff (aappend P st xt s x)).Mono := by
  intro m K K' hk hr
  simp only [D.run] at hr ⊢
  unfold aappend at hr ⊢
  have to : ∀ sz by' n ys, appTo sz by' n ys s m K → appTo sz by' n ys s m K' := by
    intro sz by' n ys h
    unfold appTo at h ⊢
    split
    · exact ⟨fun h0 => hk _ _ (h.1 h0), fun h0 => ⟨(h.2 h0).1, fun b cap hb hc => hk _ _ ((h.2 h0).2 b cap hb hc)⟩⟩
    · simp only at h
      split at h
      · exact ⟨h.1, fun h0 => hk _ _ (h.2.1 h0), fun h0 => ⟨(h.2.2 h0).1, fun b cap hb hc => hk _ _ ((h.2.2 h0).2 b cap hb hc)⟩⟩
      · exact h.elim
    · simp_all
  generalize P.underlying st = u at hr ⊢
  rcases u with _ | u
  · exact hr
  cases u <;> try exact hr
  rename_i e
  simp only at hr ⊢
  generalize tk P e = a at hr ⊢
  generalize eb P e = b at hr ⊢
  rcases a with _ | ⟨a, sz⟩
  · exact hr
  rcases b with _ | by'
  · exact hr
  simp only at hr ⊢
  refine ⟨hr.1, ?_⟩
  have h2 := hr.2
  unfold appSrc at h2 ⊢
  by_cases hi : isInt P xt = true
  · rw [if_pos hi] at h2 ⊢
    cases x <;> try exact h2
    simp only at h2 ⊢
    generalize zc P e = z at h2 ⊢
    rcases z with _ | z
    · exact h2
    · simp only at h2 ⊢
      exact ⟨h2.1, h2.2.1, h2.2.2.1, h2.2.2.2.1, h2.2.2.2.2.1, to _ _ _ _ h2.2.2.2.2.2⟩
  · rw [if_neg hi] at h2 ⊢
    exact src_mono (fun n ys h => ⟨h.1, to _ _ _ _ h.2⟩) h2
theorem acopy_mono {P : Program} {dt : TypeId} {d x : AVal} : (D.eff (acopy P dt d x)).Mono := by
  intro m K K' hk hr
  simp only [D.run] at hr ⊢
  unfold acopy at hr ⊢
  generalize P.underlying dt = u at hr ⊢
  rcases u with _ | u
  · exact hr
  cases u <;> try exact hr
  rename_i e
  simp only at hr ⊢
  generalize tk P e = a at hr ⊢
  rcases a with _ | ⟨a, sz⟩
  · exact hr
  simp only at hr ⊢
  refine src_mono (fun n ys h => ?_) hr
  cases d <;> try exact h
  · exact hk _ _ h
  · simp only at h ⊢
    split
    · simp_all
    · simp_all

theorem noEff_den {P : Program} {e : Operand → AVal} {op : Op} (hc : ∀ c, op ≠ .call c) : (den P e op).noEff = true := by
  cases op <;> simp only [den] <;> first | rfl | skip
  case call c => exact absurd rfl (hc c)
  case pick c x y => unfold apk; split <;> rfl
  case alloc t => unfold aalloc; split <;> rfl
  case box t v => unfold abox; split <;> rfl
  case build t ps => unfold abuild; repeat' split
                     all_goals rfl
  case buildSlice t n ps => unfold abuildSlice; repeat' split
                            all_goals rfl
  case load t a => unfold aload; repeat' split
                   all_goals rfl
  case store t a v => unfold astore; repeat' split
                      all_goals rfl
  case nilCheck x => unfold anil; repeat' split
                     all_goals rfl
  case binOp op t x y t' => unfold abin aeqop anum; repeat' split
                            all_goals rfl
  case unOp op t x => unfold aun; repeat' split
                      all_goals rfl
  case convert s d x => unfold aconv; repeat' split
                        all_goals rfl
  case makeInterface t x => unfold aiface; repeat' split
                            all_goals rfl
  case makeSlice t l c => unfold amake; repeat' split
                          all_goals rfl
  case slice t x lo hi mx => unfold aslice; repeat' split
                             all_goals rfl
  case fieldAddr t x f => unfold afieldAddr; repeat' split
                          all_goals rfl
  case field t x f => unfold afield; repeat' split
                      all_goals rfl
  case indexAddr t x i => unfold aindexAddr; repeat' split
                          all_goals rfl
  case index t x i => unfold aindex; repeat' split
                      all_goals rfl
  case typeAssert x xt t ok => unfold aassert; repeat' split
                               all_goals rfl
  case extract x i => unfold aextract; repeat' split
                      all_goals rfl

theorem den_mono {P : Program} {e : Operand → AVal} {op : Op} : (den P e op).Mono := by
  by_cases hc : ∃ c, op = .call c
  · obtain ⟨c, rfl⟩ := hc
    simp only [den]
    unfold acall abuiltin
    repeat' split
    all_goals first
      | exact aappend_mono
      | exact acopy_mono
      | (refine D.Mono.of ?_; first | rfl | (unfold alen; repeat' split
                                             all_goals rfl) | (unfold acap; repeat' split
                                                               all_goals rfl) | (unfold amm; repeat' split
                                                                                 all_goals rfl) | (unfold aclear; repeat' split
                                                                                                   all_goals rfl))
  · exact D.Mono.of (noEff_den fun c h => hc ⟨c, h⟩)

theorem opGo_mono {P : Program} {G : Nat → AVal} {e : Operand → AVal} {op : Op} {m : Heap} {K K' : AVal → Heap → Prop} (hk : ∀ v m', K v m' → K' v m') (h : opGo P G e op m K) : opGo P G e op m K' := by
  unfold opGo at h ⊢
  split
  · simp_all
    exact h.mono hk
  · split
    · simp_all
      exact SpecWP.mono h hk
    · simp_all
      exact den_mono m K K' hk h
theorem den_callOf {P : Program} {e : Operand → AVal} {op : Op} {x : FuncId × List AVal} (h : callOf e op = some x) : den P e op = .fail := by
  unfold callOf at h
  split at h
  · rename_i c
    split at h
    · rename_i f hf
      simp only [den, acall, hf]
    · simp at h
  · simp at h
theorem den_specOf {P : Program} {e : Operand → AVal} {op : Op} {x : Spec × List AVal} (h : specOf e op = some x) : den P e op = .fail := by
  unfold specOf at h
  split at h
  · rename_i c
    split at h
    · rename_i f hf
      simp only [den, acall, hf]
    · rename_i f name hf
      simp only [den, acall, hf]
    · simp at h
  · simp at h
theorem opGo_of_den {P : Program} {G : Nat → AVal} {e : Operand → AVal} {op : Op} {m : Heap} {K : AVal → Heap → Prop} (h : (den P e op).run m K) : opGo P G e op m K := by
  unfold opGo
  split
  · rename_i hc
    rw [den_callOf hc] at h
    exact h.elim
  · split
    · rename_i hc
      rw [den_specOf hc] at h
      exact h.elim
    · exact h

end Go.Proofs.Ytcdhihoghkkahaa.Ab
