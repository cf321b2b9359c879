/- Drawn regions: the rule is sound. -/
import Derived.Test.YtcdhihoghkkahaaAb14
set_option linter.all false
namespace Go.Proofs.Ytcdhihoghkkahaa.Ab
open Go

def orBits (B : List Nat) : List Edge → Nat
  | [] => 0
  | e :: es => if Region.binds .any e then ((1 <<< e.on) ||| B.getD e.on 0) ||| orBits B es else orBits B es
def masksGo : List Oper → List Nat → List Nat
  | [], acc => acc
  | o :: os, acc => masksGo os (acc ++ [orBits acc o.after.toList])
def opChk (B : List Nat) (N : Nat) : Nat → List Oper → Bool
  | _, [] => true
  | i, o :: os => B.getD i 0 == orBits B o.after.toList && o.after.toList.all (fun e => !Region.binds .any e || decide (e.on < i)) && (match o.dst with | some d => decide (d < N) | none => true) && opChk B N (i + 1) os
def pairB (ops : Array Oper) (B : List Nat) (x y : Nat × Cls) : Bool := x.1 != y.1 && ((B.getD y.1 0).testBit x.1 || okPair ops x y)
def pairsB (ops : Array Oper) (B : List Nat) : List (Nat × Cls) → Bool
  | [] => true
  | x :: rest => rest.all (pairB ops B x) && pairsB ops B rest
def chkWith (ops : Array Oper) (N : Nat) (ord : List (Nat × Cls)) (B : List Nat) : Bool :=
  opChk B N 0 ops.toList && (List.range ops.size).all (fun i => ord.any fun x => x.1 == i) && ord.all (fun x => decide (x.1 < ops.size)) && decide (ord.length ≤ ops.size) && pairsB ops B ord
/-- The order that is walked stands for every other one. -/
def chk (ops : Array Oper) (N : Nat) (ord : List (Nat × Cls)) : Bool := chkWith ops N ord (masksGo ops.toList [])

theorem orBits_spec {B : List Nat} {x : Nat} : ∀ (es : List Edge), (orBits B es).testBit x = true → ∃ e, e ∈ es ∧ Region.binds .any e = true ∧ (e.on = x ∨ (B.getD e.on 0).testBit x = true)
  | [], h => by simp [orBits] at h
  | e :: es, h => by
    simp only [orBits] at h
    split at h
    · rename_i hb
      simp only [Nat.testBit_or, Bool.or_eq_true] at h
      rcases h with (h | h) | h
      · rw [Nat.one_shiftLeft, Nat.testBit_two_pow] at h
        exact ⟨e, by simp, hb, .inl (by simpa using h)⟩
      · exact ⟨e, by simp, hb, .inr h⟩
      · obtain ⟨e', h1, h2⟩ := orBits_spec es h
        exact ⟨e', by simp [h1], h2⟩
    · obtain ⟨e', h1, h2⟩ := orBits_spec es h
      exact ⟨e', by simp [h1], h2⟩
theorem opChk_spec {B : List Nat} {N : Nat} : ∀ (os : List Oper) (k : Nat), opChk B N k os = true → ∀ (i : Nat) (o : Oper), os[i]? = some o →
    B.getD (k + i) 0 = orBits B o.after.toList ∧ (∀ e, e ∈ o.after.toList → Region.binds .any e = true → e.on < k + i) ∧ (∀ d, o.dst = some d → d < N)
  | [], k, _, i, o, h => by simp at h
  | p :: os, k, hc, i, o, h => by
    simp only [opChk, Bool.and_eq_true, beq_iff_eq, List.all_eq_true, Bool.or_eq_true, Bool.not_eq_true', decide_eq_true_eq] at hc
    cases i with
    | zero =>
      simp only [List.getElem?_cons_zero, Option.some.injEq] at h
      subst h
      refine ⟨hc.1.1.1, fun e he hb => ?_, fun d hd => ?_⟩
      · rcases hc.1.1.2 e he with h | h
        · rw [hb] at h; cases h
        · exact h
      · have := hc.1.2
        rw [hd] at this
        simpa using this
    | succ i =>
      have := opChk_spec os (k + 1) hc.2 i o (by simpa using h)
      rw [show k + 1 + i = k + (i + 1) by omega] at this
      exact this
theorem pairsB_spec {ops : Array Oper} {B : List Nat} : ∀ (l : List (Nat × Cls)), pairsB ops B l = true → List.Pairwise (fun x y => pairB ops B x y = true) l
  | [], _ => .nil
  | x :: l, h => by
    simp only [pairsB, Bool.and_eq_true, List.all_eq_true] at h
    exact .cons h.1 (pairsB_spec l h.2)

theorem plain_run {S : Nat → Prop} {m0 m : Heap} {d : D} {K : AVal → Heap → Prop} (hst : Stays S m0 m) (h : (plain d).run m K) : d.run m fun v m' => Stays S m0 m' ∧ K v m' := by
  cases d with
  | fail => exact h
  | pure c v => exact ⟨h.1, hst, h.2⟩
  | read p c f =>
    simp only [plain, D.run] at h ⊢
    split at h
    · exact ⟨h.1, hst, h.2⟩
    · exact h
  | alloc c x mk =>
    refine ⟨h.1, fun b hb => ⟨fun p y hp hy => ?_, h.2 b hb⟩⟩
    have := hst p y hp hy
    rw [hupd_ne (fun e => by rw [e, hb] at this; cases this)]
    exact this
  | write p c f v => exact h.elim
  | eff T => exact h.elim
theorem calm_run {S S' : Nat → Prop} {m0 m : Heap} {d : D} {K : AVal → Heap → Prop} (hst : Stays S m0 m) (h : (calm S' d).run m K) : d.run m fun v m' => Stays S m0 m' ∧ K v m' := by
  cases d with
  | fail => exact h
  | pure c v => exact ⟨h.1, hst, h.2⟩
  | read p c f =>
    simp only [calm, D.run] at h ⊢
    split at h
    · exact ⟨h.1.2, hst, h.2⟩
    · exact h
  | alloc c x mk => exact h.elim
  | write p c f v => exact h.elim
  | eff T => exact h.elim

theorem Dr.act_go (R : Dr) {c : Cls} {i : Nat} {e : Operand → AVal} {op : Op} {m : Heap} {K : AVal → Heap → Prop} (hst : Stays R.S0 R.m0 m) (h : (R.act c i e op).run m K) :
    opGo R.P R.G e op m fun v m' => Stays R.S0 R.m0 m' ∧ K v m' := by
  unfold Dr.act at h
  cases c with
  | q => exact opGo_of_den (plain_run hst h)
  | r us => exact opGo_of_den (calm_run hst h)
  | e =>
    have h : opGo R.P R.G e op m fun v m' => ((∀ p, R.S0 p → m' p = m p) ∧ ∀ p, R.S i p → m' p = m p) ∧ K v m' := h
    exact opGo_mono (fun v m' hv => ⟨fun p x hp hx => by rw [hv.1.1 p hp]; exact hst p x hp hx, hv.2⟩) h
  | k =>
    simp only at h
    unfold opGo
    cases hc : callOf e op with
    | none => rw [hc] at h; exact h.elim
    | some p =>
      obtain ⟨f, args⟩ := p
      rw [hc] at h
      obtain ⟨h1, h2⟩ := h
      refine (h1 m hst).mono ?_
      rintro v m' ⟨rfl, rfl⟩
      exact ⟨hst, h2⟩

theorem Dr.step_sound (R : Dr) {N : Nat} {r : Option Nat} {j : Nat} {c : Cls} {ts : TS} {m : Heap} {w : World} {a : Act} {K1 : TS → Heap → Prop} {K2 : Act → World → Prop} {Q : Exit → Act → World → Prop}
    (hN : ∀ o d, R.ops[j]? = some o → o.dst = some d → d < N) (h : R.step (j, c) ts m K1) (hs : Sat m w) (hg : GOk R.G m w) (ht : TRel N m w ts a) (hst : Stays R.S0 R.m0 m)
    (hk : ∀ ts' m' a' w', K1 ts' m' → Sat m' w' → TRel N m' w' ts' a' → Ext m w m' w' → a'.defers = a.defers → Stays R.S0 R.m0 m' → K2 a' w') : wpOpIn (W r) 0 R.P R.ops Q j K2 a w := by
  unfold Dr.step at h
  simp only at h
  unfold wpOpIn
  cases ho : R.ops[j]? with
  | none => rw [ho] at h; exact h.elim
  | some o =>
    rw [ho] at h
    simp only at h ⊢
    have hd' := fun d => hN o d ho
    have hw : wantA R.ops ts o (opGo R.P R.G (ev R.G ts) o.op m fun v m' => Stays R.S0 R.m0 m' ∧ K1 (put ts o.dst v) m') (K1 (put ts o.dst (.tuple [])) m) := by
      refine wantA_of_gd ?_
      unfold Dr.d at h
      cases hgd : gd R.ops ts o with
      | none => rw [hgd] at h; exact h.elim
      | some b =>
        rw [hgd] at h
        cases b with
        | true => exact R.act_go hst h
        | false => exact h.2
    rcases wanted_of ht hw with ⟨hw, hy⟩ | ⟨hw, hn⟩
    · simp only [hw, if_true]
      refine oper_next (oper_sound (r := r) (K := fun ts' m' => Stays R.S0 R.m0 m' ∧ K1 ts' m') hs hg ht hd' hy) ?_
      rintro a' w' ⟨ts', m', ⟨h1, h2⟩, hs', ht', he', hdef⟩
      exact hk _ _ _ _ h2 hs' ht' he' hdef h1
    · simp only [hw, Bool.false_eq_true, if_false]
      refine ⟨fun _ _ => trivial, ?_⟩
      exact hk _ _ _ _ hn hs (ht.put hd' (.tuple [] #[] rfl (fun i hi => by simp at hi))) (Ext.refl _ _) (by cases o.dst <;> rfl) hst

theorem Sat.fs {m : Heap} {w : World} (h : Sat m w) : FS m := ⟨w.heap.size, fun b hb => by
  cases hm : m b with
  | none => rfl
  | some x => have := h.lt hm; omega⟩

section
variable {B : List Nat} {ops : Array Oper} {N : Nat}

theorem trans_listed (hB : opChk B N 0 ops.toList = true) {listed : Array Bool} (hsz : listed.size = ops.size)
    (hcl : ∀ i o, ops[i]? = some o → listed.getD i false = true → ∀ e, e ∈ o.after → Region.binds .any e = true → listed.getD e.on false = true) :
    ∀ (i : Nat) (o : Oper), ops[i]? = some o → (∀ e, e ∈ o.after → Region.binds .any e = true → listed.getD e.on false = true) → ∀ x, (B.getD i 0).testBit x = true → listed.getD x false = true := by
  intro i
  induction i using Nat.strongRecOn with
  | _ i ih =>
    intro o ho hr x hx
    obtain ⟨h1, h2, _⟩ := opChk_spec ops.toList 0 hB i o (by simpa using ho)
    rw [Nat.zero_add] at h1 h2
    rw [h1] at hx
    obtain ⟨e, he, hb, hor⟩ := orBits_spec _ hx
    have hel := hr e (by simpa using he) hb
    rcases hor with rfl | hor
    · exact hel
    · have hlt : e.on < ops.size := by
        rw [← hsz]
        by_cases hlt : e.on < listed.size
        · exact hlt
        · rw [Array.getD_eq_getD_getElem?, Array.getElem?_eq_none (by omega)] at hel; simp at hel
      exact ih e.on (h2 e he hb) ops[e.on] (Array.getElem?_eq_getElem hlt) (hcl e.on _ (Array.getElem?_eq_getElem hlt) hel) x hor

theorem Dr.any_sound (R : Dr) (hR : R.ops = ops) (hB : opChk B N 0 ops.toList = true) {r : Option Nat} {K : TS → Heap → Prop} {Q : Exit → Act → World → Prop} :
    ∀ (fuel : Nat) (ord : List (Nat × Cls)) (listed : Array Bool) (ts : TS) (m : Heap) (w : World) (a : Act), listed.size = ops.size →
      (∀ i, listed.getD i true = false ↔ i ∈ ord.map (·.1)) →
      (∀ i o, ops[i]? = some o → listed.getD i false = true → ∀ e, e ∈ o.after → Region.binds .any e = true → listed.getD e.on false = true) →
      List.Pairwise (fun x y => pairB ops B x y = true) ord → ord.length ≤ fuel → R.go ord ts m K → Sat m w → GOk R.G m w → TRel N m w ts a → Stays R.S0 R.m0 m → (∀ a' w', KW N m w a.defers K a' w' → Q .normal a' w') →
      wpAnyIn (W r) 0 R.P .any ops Q fuel listed a w := by
  intro fuel
  induction fuel with
  | zero =>
    intro ord listed ts m w a hsz hmem hcl hp hlen h hs hg ht hst hQ
    obtain rfl : ord = [] := List.length_eq_zero_iff.1 (Nat.le_zero.1 hlen)
    refine ⟨?_, hQ _ _ ⟨ts, m, h, hs, ht, Ext.refl _ _, rfl⟩⟩
    refine List.eq_nil_iff_forall_not_mem.2 fun j hj => ?_
    have := (hmem j).1 (mem_ready.1 hj).1
    simp at this
  | succ fuel ih =>
    intro ord listed ts m w a hsz hmem hcl hp hlen h hs hg ht hst hQ
    refine ⟨fun hnil => ?_, fun j hj => ?_⟩
    · match ord with
      | [] => exact hQ _ _ ⟨ts, m, h, hs, ht, Ext.refl _ _, rfl⟩
      | x :: ord =>
        exfalso
        have main : ∀ i, listed.getD i true = false → False := by
          intro i
          induction i using Nat.strongRecOn with
          | _ i ih' =>
            intro hi
            have hlt : i < ops.size := by
              rw [← hsz]
              by_cases hlt : i < listed.size
              · exact hlt
              · rw [Array.getD_eq_getD_getElem?, Array.getElem?_eq_none (by omega)] at hi; simp at hi
            have hmr : i ∈ Region.ready .any ops listed := by
              refine mem_ready.2 ⟨hi, ops[i], Array.getElem?_eq_getElem hlt, fun e he hb => ?_⟩
              obtain ⟨_, h2, _⟩ := opChk_spec ops.toList 0 hB i ops[i] (by simp [hlt])
              have hlt' := h2 e (by simpa using he) hb
              cases hl : listed.getD e.on true with
              | false => exact (ih' e.on (by omega) hl).elim
              | true =>
                have : e.on < listed.size := by omega
                rw [Array.getD_eq_getD_getElem?, Array.getElem?_eq_getElem this] at hl ⊢
                simpa using hl
            rw [hnil] at hmr
            cases hmr
        exact main x.1 ((hmem x.1).2 (by simp))
    · have hjr := mem_ready.1 hj
      obtain ⟨hjun, o, ho, hall⟩ := hjr
      have hjm := (hmem j).1 hjun
      obtain ⟨⟨j', c⟩, hjo, hj'⟩ := List.mem_map.1 hjm
      simp only at hj'
      subst hj'
      obtain ⟨l1, l2, rfl⟩ := List.append_of_mem hjo
      have hpw := List.pairwise_append.1 hp
      have hpc := List.pairwise_cons.1 hpw.2.1
      have hok : ∀ x, x ∈ l1 → okPair R.ops x (j', c) = true := by
        intro x hx
        have := hpw.2.2 x hx (j', c) (by simp)
        unfold pairB at this
        simp only [Bool.and_eq_true, Bool.or_eq_true] at this
        rcases this.2 with hb | hb
        · exfalso
          have h1 := trans_listed hB hsz hcl j' o ho hall x.1 hb
          have h2 := (hmem x.1).2 (by simp; exact .inl ⟨_, hx⟩)
          by_cases hlt : x.1 < listed.size
          · rw [Array.getD_eq_getD_getElem?, Array.getElem?_eq_getElem hlt] at h1 h2
            simp at h1 h2
            rw [h1] at h2; cases h2
          · rw [Array.getD_eq_getD_getElem?, Array.getElem?_eq_none (by omega)] at h2; simp at h2
        · rw [hR]; exact hb
      have hgo := R.bubble l1 ts m hok hs.fs h
      have hstep : R.step (j', c) ts m fun ts' m' => R.go (l1 ++ l2) ts' m' K := hgo
      have hN : ∀ o d, R.ops[j']? = some o → o.dst = some d → d < N := by
        intro o' d ho' hd
        rw [hR] at ho'
        exact (opChk_spec ops.toList 0 hB j' o' (by simpa using ho')).2.2 d hd
      have hjlt : j' < listed.size := by rw [hsz]; exact (Array.getElem?_eq_some_iff.1 ho).1
      have := R.step_sound (r := r) (Q := Q) (K2 := wpAnyIn (W r) 0 R.P .any ops Q fuel (listed.setIfInBounds j' true)) hN hstep hs hg ht hst (fun ts' m' a' w' hk hs' ht' he' hdef hst' => by
        refine ih (l1 ++ l2) _ ts' m' w' a' (by simp [hsz]) (fun i => ?_) (fun i o' ho' hi e he hb => ?_) ?_ ?_ hk hs' (hg.ext he') ht' hst' ?_
        · by_cases hij : j' = i
          · subst hij
            have hl : (listed.setIfInBounds j' true).getD j' true = true := by
              rw [Array.getD_eq_getD_getElem?]; simp [hjlt]
            rw [hl]
            refine ⟨fun h => by simp at h, fun hm => ?_⟩
            exfalso
            obtain ⟨y, hy, hy'⟩ := List.mem_map.1 hm
            rcases List.mem_append.1 hy with hy | hy
            · have := hpw.2.2 y hy (j', c) (by simp)
              unfold pairB at this
              simp only [Bool.and_eq_true, bne_iff_ne, ne_eq] at this
              exact this.1 hy'
            · have := hpc.1 y hy
              unfold pairB at this
              simp only [Bool.and_eq_true, bne_iff_ne, ne_eq] at this
              exact this.1 hy'.symm
          · rw [getD_set_ne true hij, hmem i]
            simp only [List.map_append, List.map_cons, List.mem_append, List.mem_cons]
            constructor
            · rintro (h | h | h)
              · exact .inl h
              · exact absurd h.symm hij
              · exact .inr h
            · rintro (h | h)
              · exact .inl h
              · exact .inr (.inr h)
        · by_cases hij : i = j'
          · subst hij
            rw [ho] at ho'; cases ho'
            exact getD_set_true (hall e he hb)
          · refine getD_set_true (hcl i o' ho' ?_ e he hb)
            rw [getD_set_ne false (Ne.symm hij)] at hi
            exact hi
        · exact hp.sublist (List.Sublist.append (List.Sublist.refl l1) (List.sublist_cons_self _ _))
        · simp at hlen ⊢; omega
        · rintro a'' w'' ⟨ts'', m'', hk'', hs'', ht'', he'', hd''⟩
          exact hQ _ _ ⟨ts'', m'', hk'', hs'', ht'', he'.trans he'', hd''.trans hdef⟩)
      rw [hR] at this
      exact this
end

theorem VRel.drawn {m : Heap} {w w' : World} (h : w'.heap = w.heap) (e : Ext m w m w') (hs : Sat m w) : Sat m w' := by
  intro b x hb
  have := hs b x hb
  rw [h]
  cases x with
  | cells cs N => obtain ⟨arr, ty, h1, h2, h3, h4⟩ := this; exact ⟨arr, ty, h1, h2, h3, fun i hi => (h4 i hi).ext e⟩
  | map es => obtain ⟨a, c, h1, h2, h3, h4, h5, k, h6⟩ := this; exact ⟨a, c, h1, h2, h3, h4, h5, k, fun i hi => ⟨(h6 i hi).1, (h6 i hi).2.ext e⟩⟩
  | obj o' => exact this
  | loop N ts ps a b st pe => obtain ⟨fn, tmps, D, h1, h2, h3⟩ := this; exact ⟨fn, tmps, D, h1, h2, fun t => (h3 t).ext e⟩

/-- A drawn region, walked in one order that stands for all. -/
theorem awp_drawn {P : Program} {G : Nat → AVal} {N : Nat} {r : Option Nat} {id : Nat} {ops : Array Oper} {Q : Exit → TS → Heap → Prop} {ts : TS} {m : Heap} (ord : List (Nat × Cls)) (qv : Nat → AVal) (S0 : Nat → Prop) (S : Nat → Nat → Prop)
    (hm : P.follows .mixedOrders = true) (hc : chk ops N ord = true) (h : (Dr.mk P G ops qv S0 S m).go ord ts m (Q .normal)) : AWP P G N r (.region id ops true) Q ts m := by
  intro B w a hB hs hg ht hd
  unfold chk chkWith at hc
  simp only [Bool.and_eq_true, List.all_eq_true, List.any_eq_true, decide_eq_true_eq, beq_iff_eq, List.mem_range] at hc
  obtain ⟨⟨⟨⟨hc1, hc2⟩, hc3⟩, hlen⟩, hc4⟩ := hc
  have hx : Ext m w m { w with drawn := w.drawn + 1 } := ⟨Nat.le_refl _, rfl, rfl, ⟨rfl, Nat.le_succ _⟩, fun _ _ h => ⟨rfl, h⟩⟩
  refine wpIn_region_any hm ?_
  refine Dr.any_sound (Dr.mk P G ops qv S0 S m) rfl hc1 (r := r) (K := Q .normal) ops.size ord _ ts m _ a (by simp) (fun i => ?_) (fun i o ho hi => ?_) (pairsB_spec ord hc4) hlen h (VRel.drawn (w := w) rfl hx hs) (hg.ext hx) (ht.ext hx) (fun _ _ _ h => h) ?_
  · by_cases hlt : i < ops.size
    · simp only [Array.getD_eq_getD_getElem?]
      simp [hlt]
      obtain ⟨x, h1, h2⟩ := hc2 i hlt
      exact ⟨x.2, by rw [← h2]; exact h1⟩
    · simp only [Array.getD_eq_getD_getElem?]
      simp [hlt]
      intro c hc
      exact hlt (hc3 _ hc)
  · exfalso
    simp only [Array.getD_eq_getD_getElem?] at hi
    by_cases hlt : i < ops.size <;> simp [hlt] at hi
  · rintro a' w' ⟨ts', m', hk, hs', ht', he', hdef⟩
    exact ⟨ts', m', hk, hs', ht', hx.trans he', by rw [hdef]; exact hd.ext (hx.trans he')⟩

end Go.Proofs.Ytcdhihoghkkahaa.Ab
