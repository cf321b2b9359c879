/- Operations, part eight: copy, clear, cap, the test against nil; what an operation comes to. -/
import Derived.Test.YtcdhihoghkkahaaAb8
set_option linter.all false
namespace Go.Proofs.Ytcdhihoghkkahaa.Ab
open Go

def acopy (P : Program) (dt : TypeId) (d x : AVal) (m : Heap) (K : AVal → Heap → Prop) : Prop :=
  match P.underlying dt with
  | some (.slice e) => match tk P e with
    | some (_, sz) => src sz m x fun k ys => match d with
      | .nils => K (.int .i64 0) m
      | .slice b o len _ => match m b with
        | some (.cells cs N) => o + (min k len) * sz ≤ cs.length ∧ ys.all AVal.flat = true ∧ K (.int .i64 (min k len : Nat)) (hupd m b (.cells (splice cs o (ys.take ((min k len) * sz))) N))
        | _ => False
      | _ => False
    | none => False
  | _ => False
theorem acopy_tells {P : Program} {w : World} {m : Heap} {dt st ty : TypeId} {d x : AVal} {d' x' : Value} (hs : Sat m w) (hd : VRel m w d d') (hx : VRel m w x x') :
    Tells P (.eff (acopy P dt d x)) (Builtin.copy_ #[dt, st] ty #[d', x']) w m := by
  intro K hK
  simp only [D.run] at hK
  unfold acopy at hK
  split at hK
  case h_2 => exact hK.elim
  rename_i e hu
  split at hK
  case h_2 => exact hK.elim
  rename_i a sz ht
  obtain ⟨n, ys, hK, hsame, hlen, hn, hc⟩ := src_sound (P := P) hs hx hK
  cases d with
  | nils =>
    cases hd
    obtain ⟨zs, z1, z2, z3⟩ := hc 0 (by omega)
    refine ⟨.int .i64 0, w, .int .i64 0, m, ?_, hK, .int _ _, hs, Ext.refl _ _⟩
    have hm : Nat.min n 0 = 0 := by simp
    simp [Builtin.copy_, run_underlying hu, hn, run_sizeOf' ht, hm, z1, goInt]
  | slice b o len cap =>
    cases hd
    simp only at hK
    split at hK
    · rename_i cs N hb
      obtain ⟨f1, f2, hK⟩ := hK
      obtain ⟨zs, z1, z2, z3⟩ := hc (min n len) (Nat.min_le_left _ _)
      have hle : (min n len) * sz ≤ n * sz := Nat.mul_le_mul_right _ (Nat.min_le_left _ _)
      have hyl : (ys.take ((min n len) * sz)).length = (min n len) * sz := by simp; omega
      obtain ⟨w', r1, r2, r3⟩ := store_step (P := P) hs hb o (ys.take ((min n len) * sz)) zs.toList (by rw [hyl]; simp [z2])
        (fun i hi => by
          rw [hyl] at hi
          have := z3 i hi
          have hi2 : i < ys.length := by omega
          simpa [Array.getD_eq_getD_getElem?, List.getD_eq_getElem?_getD, List.getElem?_take, hi] using this)
        (List.all_eq_true.2 fun v hv => List.all_eq_true.1 f2 v (List.mem_of_mem_take hv)) (by rw [hyl]; exact f1)
      refine ⟨.int .i64 (min n len : Nat), w', _, _, ?_, hK, .int _ _, r2, r3⟩
      have hm : Nat.min n len = min n len := rfl
      simp only [Builtin.copy_, List.getElem?_toArray, List.getElem?_cons_zero, List.getElem?_cons_succ, Sem.run_bind, run_underlying hu, Result.andThen_ok, hn, run_sizeOf' ht, hm, z1, r1, Sem.run_pure, goInt]
    · exact hK.elim
  | _ => exact hK.elim

def aclear (P : Program) (t : TypeId) : AVal → D
  | .nils => .pure True (.tuple [])
  | .slice b o n _ => match P.underlying t with
    | some (.slice e) => match zc P e with
      | some z => .write b (fun x => match x with | .cells cs _ => o + n * z.length ≤ cs.length ∧ z.all AVal.flat = true ∧ 0 < z.length | _ => False) (fun x => match x with | .cells cs N => .cells (splice cs o (rep n z)) N | y => y) (.tuple [])
      | none => .fail
    | _ => .fail
  | _ => .fail
theorem rep_all (p : AVal → Bool) (n : Nat) (z : List AVal) (h : z.all p = true) : (rep n z).all p = true := by
  rw [List.all_eq_true] at h ⊢
  intro v hv
  simp only [rep, List.mem_flatten, List.mem_replicate] at hv
  obtain ⟨l, ⟨_, rfl⟩, hv⟩ := hv
  exact h v hv
theorem hupd_same {m : Heap} {b : Nat} {x : ABlk} (h : m b = some x) : hupd m b x = m := by
  funext i; simp only [hupd]; split
  · rename_i hi; subst hi; exact h.symm
  · rfl
theorem aclear_tells {P : Program} {w : World} {m : Heap} {t ty : TypeId} {x : AVal} {x' : Value} (hs : Sat m w) (hx : VRel m w x x') (ht : (P.underlying t).isSome = true) : Tells P (aclear P t x) (Builtin.clear_ #[t] ty #[x']) w m := by
  obtain ⟨d, hd⟩ := Option.isSome_iff_exists.1 ht
  unfold aclear
  split
  · cases hx
    exact tells_pure hs (fun _ => ⟨.tuple #[], by simp [Builtin.clear_, run_underlying hd], .tuple [] #[] rfl (fun i hi => by simp at hi)⟩)
  · rename_i b o n cap
    split
    · rename_i e hu
      split
      · rename_i z hz
        intro K hK
        simp only [D.run] at hK
        split at hK
        · rename_i y hy
          cases y with
          | cells cs N =>
            obtain ⟨⟨f1, f2, f3⟩, hK⟩ := hK
            cases hx
            obtain ⟨zv, z1, z2, z3⟩ := run_zc hz w
            by_cases hn : n = 0
            · subst hn
              have e0 : splice cs o (rep 0 z) = cs := by simp [rep, splice]
              simp only [e0] at hK
              rw [hupd_same hy] at hK
              refine ⟨.tuple #[], w, _, _, ?_, hK, .tuple [] #[] rfl (fun i hi => by simp at hi), hs, Ext.refl _ _⟩
              simp [Builtin.clear_, run_underlying hd]
            · have hl : (rep n z).length = (Builtin.zeroCells zv.cells n).toList.length := by simp [rep_length, Builtin.zeroCells, z2]
              obtain ⟨w', r1, r2, r3⟩ := store_step (P := P) hs hy o (rep n z) (Builtin.zeroCells zv.cells n).toList hl
                (fun i hi => by
                  rw [rep_length] at hi
                  rw [rep_getD z _ _ hi]
                  have hm := Nat.mod_lt i f3
                  have := z3 m w (i % z.length) hm
                  have hi' : i < n * zv.cells.size := by rw [← z2]; exact hi
                  have hm' : i % zv.cells.size < zv.cells.size := by rw [← z2]; exact hm
                  have e2 : (Builtin.zeroCells zv.cells n).toList.getD i Go.undef = zv.cells.getD (i % zv.cells.size) Go.undef := by
                    simp [Builtin.zeroCells, List.getD_eq_getElem?_getD, Array.getD_eq_getD_getElem?, hi', hm']
                  rw [e2, ← z2]; exact this) (rep_all _ _ _ f2) (by rw [rep_length]; exact f1)
              refine ⟨.tuple #[], w', _, _, ?_, hK, .tuple [] #[] rfl (fun i hi => by simp at hi), r2, r3⟩
              unfold Builtin.clear_
              obtain ⟨k, rfl⟩ : ∃ k, n = k + 1 := ⟨n - 1, by omega⟩
              simp only [List.getElem?_toArray, List.getElem?_cons_zero, Sem.run_bind, run_underlying hu, Result.andThen_ok, z1, r1, Sem.run_pure]
          | map es => exact hK.1.elim
          | obj o => exact hK.1.elim
          | loop => exact hK.1.elim
        · exact hK.elim
      · exact tells_fail
    · exact tells_fail
  · exact tells_fail

def acap (P : Program) (t : TypeId) : AVal → D
  | .slice _ _ _ c => match P.underlying t with
    | some (.slice _) => .pure True (.int .i64 c)
    | _ => .fail
  | .nils => match P.underlying t with
    | some (.slice _) => .pure True (.int .i64 0)
    | _ => .fail
  | _ => .fail
theorem acap_tells {P : Program} {w : World} {m : Heap} {t ty : TypeId} {x : AVal} {x' : Value} (hs : Sat m w) (hx : VRel m w x x') : Tells P (acap P t x) (Builtin.cap_ #[t] ty #[x']) w m := by
  unfold acap
  split
  · split
    · rename_i e hu
      cases hx; exact tells_pure hs (fun _ => ⟨.int .i64 _, by simp [Builtin.cap_, run_underlying hu, goInt], .int _ _⟩)
    · exact tells_fail
  · split
    · rename_i e hu
      cases hx; exact tells_pure hs (fun _ => ⟨.int .i64 _, by simp [Builtin.cap_, run_underlying hu, goInt], .int _ _⟩)
    · exact tells_fail
  · exact tells_fail

def aiface (P : Program) (t : TypeId) (v : AVal) : D := match P.underlying t with
  | some (.interface _) => .fail
  | some _ => .pure True (.iface t v)
  | none => .fail
theorem aiface_tells {P : Program} {w : World} {m : Heap} {t : TypeId} {x : AVal} {x' : Value} (hs : Sat m w) (hx : VRel m w x x') : Tells P (aiface P t x) (Instr.makeInterface t x') w m := by
  unfold aiface
  split
  · exact tells_fail
  · rename_i d hd hu
    refine tells_pure hs (fun _ => ⟨.iface t x', ?_, .iface _ _ _ hx⟩)
    simp only [Instr.makeInterface, Sem.run_bind, run_underlying hu, Result.andThen_ok]
    cases d <;> first | rfl | exact absurd rfl (hd _)
  · exact tells_fail

/-- A type assertion to a type that is no interface. -/
def aassert (P : Program) (asserted : TypeId) (commaOk : Bool) : AVal → D
  | .iface t v => match P.underlying asserted with
    | some (.interface _) => .fail
    | some _ => .pure (t = asserted) (if commaOk then .tuple [v, .bool true] else v)
    | none => .fail
  | _ => .fail
theorem aassert_tells {P : Program} {w : World} {m : Heap} {xt asserted : TypeId} {ok : Bool} {x : AVal} {x' : Value} (hs : Sat m w) (hx : VRel m w x x') : Tells P (aassert P asserted ok x) (Instr.typeAssert x' xt asserted ok) w m := by
  unfold aassert
  split
  · split
    · exact tells_fail
    · rename_i t v _ d hd hu
      refine tells_pure hs (fun h => ?_)
      subst h
      cases hx with
      | iface _ _ y hv =>
        refine ⟨if ok then .tuple #[y, .bool true] else y, ?_, ?_⟩
        · simp only [Instr.typeAssert, Sem.run_bind, run_underlying hu, Result.andThen_ok]
          cases d <;> first | (simp; done) | exact absurd rfl (hd _)
        · cases ok
          · exact hv
          · refine .tuple _ _ rfl (fun i hi => ?_)
            match i, hi with
            | 0, _ => exact hv
            | 1, _ => exact .bool true
    · exact tells_fail
  · exact tells_fail

end Go.Proofs.Ytcdhihoghkkahaa.Ab
