/- Small rules for the walk: drawn regions in their own order, tests as plain propositions. -/
import Derived.Test.YtcdhihoghkkahaaAb21
set_option linter.all false
namespace Go.Proofs.Ytcdhihoghkkahaa.Ab
open Go

def isEff : Op → Bool
  | .store _ _ _ => true
  | .mapUpdate _ _ _ _ => true
  | .mapEntry _ _ _ => true
  | .entryStore _ _ _ _ => true
  | .insert _ _ _ _ => true
  | .call c => match c.callee with
    | .builtin .len => false
    | .builtin .cap => false
    | .builtin .min => false
    | .builtin .max => false
    | _ => true
  | _ => false
/-- Does it look at memory, or make a block? -/
def isLook : Op → Bool
  | .load _ _ | .alloc _ | .box _ _ | .buildSlice _ _ _ | .makeMap _ _ | .makeSlice _ _ _ | .lookup _ _ _ _ | .range _ _ | .next _ _ | .entry _ => true
  | _ => false
def effs : List Oper → Nat → List Nat
  | [], _ => []
  | o :: os, i => if isEff o.op = true then i :: effs os (i + 1) else effs os (i + 1)
def ordG (us : List Nat) : List Oper → Nat → List (Nat × Cls)
  | [], _ => []
  | o :: os, i => (i, if isEff o.op = true then .e else if isLook o.op = true then .q else .r us) :: ordG us os (i + 1)
def autoOrd (ops : Array Oper) : List (Nat × Cls) := ordG (effs ops.toList 0) ops.toList 0
theorem Stab_none (m m' : Heap) : Stab (fun _ => False) m m' = True := by simp [Stab]
/-- Effects that are in no order with an operation. -/
def loose (ops : Array Oper) (i : Nat) : List Nat :=
  let B := masksGo ops.toList []
  (List.range ops.size).filter fun j => (match ops[j]? with | some o => isEff o.op | none => false) && !(B.getD j 0).testBit i && !(B.getD i 0).testBit j
def looseOrd (ops : Array Oper) : List (Nat × Cls) := ops.toList.mapIdx fun i o => (i, if isEff o.op then .e else match loose ops i with | [] => .q | us => .r us)
/-- A drawn region in which all that matters is in order already. -/
theorem awp_drawnA {P : Program} {G : Nat → AVal} {N : Nat} {r : Option Nat} {id : Nat} {ops : Array Oper} {Q : Exit → TS → Heap → Prop} {ts : TS} {m : Heap}
    (hm : P.follows .mixedOrders = true) (hc : chk ops N (autoOrd ops) = true) (h : goE P G (fun _ => .undef) (fun _ => False) (fun _ _ => False) m ((autoOrd ops).map (lookD ops)) ts m (Q .normal)) : AWP P G N r (.region id ops true) Q ts m :=
  awp_drawnE (autoOrd ops) _ _ _ hm hc h
/-- A drawn region in which what is read is left by whatever effect may come ahead of it: S tells which effect leaves what. -/
theorem awp_drawnS {P : Program} {G : Nat → AVal} {N : Nat} {r : Option Nat} {id : Nat} {ops : Array Oper} {Q : Exit → TS → Heap → Prop} {ts : TS} {m : Heap} (S : Nat → Nat → Prop) (ord : List (Nat × Cls)) (hord : looseOrd ops = ord)
    (hm : P.follows .mixedOrders = true) (hc : chk ops N ord = true) (h : goE P G (fun _ => .undef) (fun _ => False) S m (ord.map (lookD ops)) ts m (Q .normal)) : AWP P G N r (.region id ops true) Q ts m :=
  awp_drawnE ord _ _ S hm hc h

theorem Sub.hold {m m' : Heap} {b : Nat} {x : ABlk} (h : Sub m m') : Sub (hupd m b x) (hupd m' b x) := by
  intro p y hp
  simp only [hupd] at hp ⊢
  split at hp
  · rename_i e; simp [e] at hp ⊢; exact hp
  · rename_i e; simp [e]; exact h p y hp
/-- What part of a memory that holds nothing more. -/
theorem Part.here {K : AVal → Heap → Prop} {v : AVal} {m : Heap} (h : K v m) : Part K v m := ⟨m, Sub.refl m, h⟩
theorem Part.of {K : AVal → Heap → Prop} {v : AVal} {m m' : Heap} (h : K v m) (s : Sub m m') : Part K v m' := ⟨m, s, h⟩
/-- Where a function's body ends, what was made may be forgotten. -/
theorem bodyR_sub {P : Program} {rs : List ResultVar} {K : AVal → Heap → Prop} {e : Exit} {ts : TS} {m m1 : Heap} (s : Sub m1 m) (h : bodyR P rs (Part K) e ts m1) : bodyR P rs (Part K) e ts m := by
  have key : ∀ (rs : List ResultVar) (k k' : List AVal → Prop), (∀ l, k l → k' l) → resGo P rs ts m1 k → resGo P rs ts m k' := by
    intro rs
    induction rs with
    | nil => intro k k' hk h; exact hk _ h
    | cons r rs ih =>
      intro k k' hk h
      cases r with
      | tmp t => exact ih _ _ (fun l hl => hk _ hl) h
      | cell x t =>
        simp only [resGo] at h ⊢
        split at h
        · rename_i b o a n hb htk
          split at h
          · rename_i cs N hm
            rw [s b _ hm]
            exact ⟨h.1, ih _ _ (fun l hl => hk _ hl) h.2⟩
          · exact h.elim
        · exact h.elim
  cases e with
  | normal => exact key rs _ _ (fun l ⟨m2, s2, h2⟩ => ⟨m2, fun p x hp => s p x (s2 p x hp), h2⟩) h
  | ret => exact key rs _ _ (fun l ⟨m2, s2, h2⟩ => ⟨m2, fun p x hp => s p x (s2 p x hp), h2⟩) h
  | _ => exact h.elim
/-- A fact that no rule takes up. -/
def Hid (p : Prop) : Prop := p
theorem Hid.out {p : Prop} (h : Hid p) : p := h
theorem Hid.mk {p : Prop} (h : p) : Hid p := h
/-- Where a round ends: not looked into. -/
def Again (_ : Nat) (p : Prop) : Prop := p
theorem Again.intro {n : Nat} {p : Prop} (h : p) : Again n p := h
theorem isAgain {n : Nat} {p : Prop} (h : Again n p) : Again n p := h
@[congr] theorem Again_cong {n n' : Nat} {p : Prop} (h : mk n = n') : Again n p = Again n' p := by rw [mk_id] at h; rw [h]
/-- A loop whose round may forget what it made; nothing is asked of what stands behind. -/
theorem awp_loopG {P : Program} {G : Nat → AVal} {N : Nat} {r : Option Nat} {c : Code} {Q : Exit → TS → Heap → Prop} {ts : TS} {m : Heap} (I : Nat → TS → Heap → Prop) (k0 : Nat) (h0 : I k0 ts m)
    (round : ∀ k ts m, I k ts m → run P G N r c (thenA (fun ts' m' => Again 0 (∃ k', k' < k ∧ ∃ m1, Sub m1 m' ∧ I k' ts' m1)) Q) ts m) : AWP P G N r (.loop c) Q ts m := by
  refine awp_loopA (fun k ts m => ∃ m1, Sub m1 m ∧ I k ts m1) k0 ⟨m, Sub.refl m, h0⟩ ?_
  rintro k ts m ⟨m1, s, h⟩
  exact (run_sound c _ ts m1 (round k ts m1 h)).drop s

theorem condA_dec (p : Prop) [Decidable p] (yes no : Prop) (h1 : p → yes) (h2 : ¬ p → no) : condA (.bool (decide p)) yes no := ⟨fun h => h1 (by simpa using h), fun h => h2 (by simpa using h)⟩
theorem condA_beq (a b : Int) (yes no : Prop) (h1 : a = b → yes) (h2 : a ≠ b → no) : condA (.bool (a == b)) yes no := ⟨fun h => h1 (by simpa using h), fun h => h2 (by simpa using h)⟩
theorem condA_bne (a b : Int) (yes no : Prop) (h1 : a ≠ b → yes) (h2 : a = b → no) : condA (.bool (a != b)) yes no := ⟨fun h => h1 (by simpa using h), fun h => h2 (by simpa using h)⟩
theorem condA_nt (b : Bool) (yes no : Prop) (h1 : b = false → yes) (h2 : b = true → no) : condA (.bool (!b)) yes no := ⟨fun h => h1 (by simpa using h), fun h => h2 (by simpa using h)⟩
theorem gV_dec (p : Prop) [Decidable p] (want : Bool) (yes no : Prop) (h1 : p → gV (.bool true) want yes no) (h2 : ¬ p → gV (.bool false) want yes no) : gV (.bool (decide p)) want yes no := by
  by_cases h : p
  · rw [decide_eq_true h]; exact h1 h
  · rw [decide_eq_false h]; exact h2 h
theorem gV_beq (a b : Int) (want : Bool) (yes no : Prop) (h1 : a = b → gV (.bool true) want yes no) (h2 : a ≠ b → gV (.bool false) want yes no) : gV (.bool (a == b)) want yes no := by
  by_cases h : a = b
  · rw [show (a == b) = true by simpa using h]; exact h1 h
  · rw [show (a == b) = false by simpa using h]; exact h2 h
theorem gV_bne (a b : Int) (want : Bool) (yes no : Prop) (h1 : a ≠ b → gV (.bool true) want yes no) (h2 : a = b → gV (.bool false) want yes no) : gV (.bool (a != b)) want yes no := by
  by_cases h : a = b
  · rw [show (a != b) = false by simpa using h]; exact h2 h
  · rw [show (a != b) = true by simpa using h]; exact h1 h
end Go.Proofs.Ytcdhihoghkkahaa.Ab
