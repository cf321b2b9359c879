/- From what is known of a law to its row. A loop whose round may forget what it made. Small rules for the walk: drawn regions in their own order, tests as plain propositions. What comes in is opened: numbers and bools by kinds, lists of such. A scope with one label; functions without a body. Plain arithmetic: words of 64 bits, by numbers. -/
import Derived.Test.YtdckcophbmnjjaaGreatDoorLg5
import Derived.Below
import Derived.Deep.Slices
import Derived.RowKit
import Derived.ScopeJumps
import Derived.Laws.Externs
set_option linter.all false
namespace Go.Proofs.YtdckcophbmnjjaaGreatDoor.Ab
open Go Go.RowKit

theorem CallWP.calls {P : Program} {f : FuncId} {args : List AVal} {cargs : Array Value} {w : World} {b : Bool}
    (he : enters P f = true) (h : CallWP P (fun _ => .undef) f args (fun _ => none) fun v m' => v = .bool b ∧ m' = fun _ => none) (hl : args.length = cargs.size)
    (hv : ∀ i, i < args.length → VRel (fun _ => none) w (args.getD i .undef) (cargs.getD i Go.undef)) : Calls P f cargs w fun e w' => e = .returned (.bool b) ∧ Below w.heap.size w w' := by
  have h : CallIn P (fun _ => .undef) f args (fun _ => none) fun v m' => v = .bool b ∧ m' = fun _ => none := by
    rcases h with h | h
    · exact h
    · exfalso
      obtain ⟨x, v, m', h1, _⟩ := h w cargs (fun b x hb => by cases hb) (fun g => .undef _) hl hv
      rw [run_enters he] at h1
      cases h1
  refine (h.2 w cargs (fun b x hb => by cases hb) (fun g => .undef _) hl hv).mono ?_
  rintro e w' ⟨cv, v, m', rfl, ⟨rfl, rfl⟩, hr, hs, ext⟩
  cases hr
  exact ⟨rfl, ext.os, ext.tape, ext.output.1, ext.size, fun k hk => (ext.keep k hk rfl).1⟩
end Go.Proofs.YtdckcophbmnjjaaGreatDoor.Ab
namespace Go.Proofs.YtdckcophbmnjjaaGreatDoor.Ab
open Go

theorem TRel.sub {N : Nat} {m m1 : Heap} {w : World} {ts : TS} {a : Act} (h : TRel N m w ts a) (s : Sub m1 m) : TRel N m1 w ts a := ⟨h.size, fun t => (h.vals t).sub s⟩
theorem GOk.sub {G : Nat → AVal} {m m1 : Heap} {w : World} (h : GOk G m w) (s : Sub m1 m) : GOk G m1 w := fun g => (h g).sub s
theorem DefOK.sub {B : Nat} {m m1 : Heap} {w : World} (s : Sub m1 m) : ∀ {ds : List Deferred}, DefOK B m w ds → DefOK B m1 w ds
  | [], _ => trivial
  | d :: ds, h => by
    obtain ⟨⟨D, h1, h0, h2, h3, h5⟩, h4⟩ := h
    exact ⟨⟨D, h1, h0, s.gone h2, h3, h5⟩, h4.sub s⟩
theorem Ext.into {m m1 m' : Heap} {w w' : World} (s : Sub m1 m) (h : Ext m1 w m' w') : Ext m w m' w' :=
  ⟨h.size, h.os, h.tape, h.output, fun b hb hm => h.keep b hb (s.gone hm)⟩
/-- What was made may be forgotten ahead of any piece of code. -/
theorem AWP.drop {P : Program} {G : Nat → AVal} {N : Nat} {r : Option Nat} {c : Code} {Q : Exit → TS → Heap → Prop} {ts : TS} {m m1 : Heap} (s : Sub m1 m) (h : AWP P G N r c Q ts m1) : AWP P G N r c Q ts m := by
  intro B w a hB hs hg ht hd
  refine wpIn_mono (h B w a hB (hs.sub s) (hg.sub s) (ht.sub s) (hd.sub s)) ?_
  rintro e a' w' ⟨ts', m', h1, h2, h3, h4, h5⟩
  exact ⟨ts', m', h1, h2, h3, h4.into s, h5⟩
/-- Where a piece of code ends, what was made may be forgotten. -/
theorem AWP.forget {P : Program} {G : Nat → AVal} {N : Nat} {r : Option Nat} {c : Code} {Q : Exit → TS → Heap → Prop} {ts : TS} {m : Heap} (h : AWP P G N r c (fun e ts' m' => ∃ m1, Sub m1 m' ∧ Q e ts' m1) ts m) : AWP P G N r c Q ts m := by
  intro B w a hB hs hg ht hd
  refine wpIn_mono (h B w a hB hs hg ht hd) ?_
  rintro e a' w' ⟨ts', m', ⟨m1, s, h1⟩, h2, h3, h4, h5⟩
  exact ⟨ts', m1, h1, h2.sub s, h3.sub s, h4.sub s, h5.sub s⟩
/-- A loop (its round told in whatever way), by what holds at its head and a number that each round lowers. -/
theorem awp_loopA {P : Program} {G : Nat → AVal} {N : Nat} {r : Option Nat} {c : Code} {Q : Exit → TS → Heap → Prop} {ts : TS} {m : Heap} (I : Nat → TS → Heap → Prop) (k0 : Nat) (h0 : I k0 ts m)
    (round : ∀ k ts m, I k ts m → AWP P G N r c (thenA (fun ts' m' => ∃ k', k' < k ∧ I k' ts' m') Q) ts m) : AWP P G N r (.loop c) Q ts m := by
  classical
  intro B w a hB hs hg ht hd
  let Inv : Nat → Act → World → Prop := fun k a' w' => ∃ ts' m', I k ts' m' ∧ Sat m' w' ∧ TRel N m' w' ts' a' ∧ Ext m w m' w' ∧ DefOK B m' w' a'.defers
  have main : ∀ k a' w', Inv k a' w' → (Code.loop c).wpIn (W r) 0 P (QL N B m w Q) a' w' := by
    intro k a0 w0 hi0
    let least : Act → World → Nat → Prop := fun a' w' j => Inv j a' w' ∧ ∀ i, Inv i a' w' → j ≤ i
    have hleast : ∀ a' w' j, Inv j a' w' → ∃ i, least a' w' i := by
      intro a' w' j
      induction j using Nat.strongRecOn with
      | _ j ih =>
        intro hj
        by_cases hm : ∃ i, i < j ∧ Inv i a' w'
        · obtain ⟨i, hi, hi'⟩ := hm; exact ih i hi hi'
        · exact ⟨j, hj, fun i hi => Nat.le_of_not_lt fun hlt => hm ⟨i, hlt, hi⟩⟩
    let μ : Act → World → Nat := fun a' w' => if h : ∃ i, least a' w' i then h.choose else 0
    refine wpIn_loop (fun a' w' => ∃ k, Inv k a' w') μ ⟨k, hi0⟩ ?_
    rintro a' w' ⟨k', hk'⟩
    have hex := hleast a' w' k' hk'
    have hμ : μ a' w' = hex.choose := by simp only [μ]; rw [dif_pos hex]
    obtain ⟨hl1, hl2⟩ := hex.choose_spec
    rw [← hμ] at hl1 hl2
    obtain ⟨ts', m', hi, hs', ht', he', hd'⟩ := hl1
    refine wpIn_mono ((round _ ts' m' hi) B w' a' (Nat.le_trans hB he'.size) hs' (hg.ext he') ht' hd') ?_
    rintro e a'' w'' ⟨ts'', m'', hk, hs'', ht'', he'', hd''⟩
    cases e with
    | normal =>
      obtain ⟨k'', hlt, hi''⟩ := hk
      have hinv : Inv k'' a'' w'' := ⟨ts'', m'', hi'', hs'', ht'', he'.trans he'', hd''⟩
      refine ⟨⟨k'', hinv⟩, ?_⟩
      have hex2 := hleast a'' w'' k'' hinv
      have hμ2 : μ a'' w'' = hex2.choose := by simp only [μ]; rw [dif_pos hex2]
      have := hex2.choose_spec.2 k'' hinv
      omega
    | _ => exact ⟨ts'', m'', hk, hs'', ht'', he'.trans he'', hd''⟩
  exact main k0 a w ⟨ts, m, h0, hs, ht, Ext.refl _ _, hd⟩

/-- A loop whose round may forget what it made. -/
theorem awp_loopF {P : Program} {G : Nat → AVal} {N : Nat} {r : Option Nat} {c : Code} {Q : Exit → TS → Heap → Prop} {ts : TS} {m : Heap} (I : Nat → TS → Heap → Prop) (k0 : Nat) (h0 : I k0 ts m)
    (round : ∀ k ts m, I k ts m → run P G N r c (thenA (fun ts' m' => ∃ k', k' < k ∧ ∃ m1, Sub m1 m' ∧ I k' ts' m1) Q) ts m) (hQ : ∀ e ts m m1, Sub m1 m → Q e ts m1 → Q e ts m) : AWP P G N r (.loop c) Q ts m := by
  refine awp_loopA (fun k ts m => ∃ m1, Sub m1 m ∧ I k ts m1) k0 ⟨m, Sub.refl m, h0⟩ ?_
  rintro k ts m ⟨m1, s, h⟩
  exact (run_sound c _ ts m1 (round k ts m1 h)).drop s
end Go.Proofs.YtdckcophbmnjjaaGreatDoor.Ab
namespace Go.Proofs.YtdckcophbmnjjaaGreatDoor.Ab
open Go

def isEff : Op → Bool
  | .store _ _ _ => true
  | .mapUpdate _ _ _ _ => true
  | .mapEntry _ _ _ => true
  | .entryStore _ _ _ _ => true
  | .insert _ _ _ _ => true
  | .call c => match c.callee with
    | .builtin .len => false
    | .builtin .cap => false
    | .builtin .min => false
    | .builtin .max => false
    | _ => true
  | _ => false
/-- Does it look at memory, or make a block? -/
def isLook : Op → Bool
  | .load _ _ | .alloc _ | .box _ _ | .buildSlice _ _ _ | .makeMap _ _ | .makeSlice _ _ _ | .lookup _ _ _ _ | .range _ _ | .next _ _ | .entry _ => true
  | _ => false
def effs : List Oper → Nat → List Nat
  | [], _ => []
  | o :: os, i => if isEff o.op = true then i :: effs os (i + 1) else effs os (i + 1)
def ordG (us : List Nat) : List Oper → Nat → List (Nat × Cls)
  | [], _ => []
  | o :: os, i => (i, if isEff o.op = true then .e else if isLook o.op = true then .q else .r us) :: ordG us os (i + 1)
def autoOrd (ops : Array Oper) : List (Nat × Cls) := ordG (effs ops.toList 0) ops.toList 0
theorem Stab_none (m m' : Heap) : Stab (fun _ => False) m m' = True := by simp [Stab]
/-- Effects that are in no order with an operation. -/
def loose (ops : Array Oper) (i : Nat) : List Nat :=
  let B := masksGo ops.toList []
  (List.range ops.size).filter fun j => (match ops[j]? with | some o => isEff o.op | none => false) && !(B.getD j 0).testBit i && !(B.getD i 0).testBit j
def looseOrd (ops : Array Oper) : List (Nat × Cls) := ops.toList.mapIdx fun i o => (i, if isEff o.op then .e else match loose ops i with | [] => .q | us => .r us)
/-- A drawn region in which all that matters is in order already. -/
theorem awp_drawnA {P : Program} {G : Nat → AVal} {N : Nat} {r : Option Nat} {id : Nat} {ops : Array Oper} {Q : Exit → TS → Heap → Prop} {ts : TS} {m : Heap}
    (hm : P.follows .mixedOrders = true) (hc : chk ops N (autoOrd ops) = true) (h : goE P G (fun _ => .undef) (fun _ => False) (fun _ _ => False) (fun _ _ _ _ => False) m ((autoOrd ops).map (lookD ops)) ts m (Q .normal)) : AWP P G N r (.region id ops true) Q ts m :=
  awp_drawnE (autoOrd ops) _ _ _ hm hc h
/-- A drawn region in which what is read is left by whatever effect may come ahead of it: S tells which effect leaves what. -/
theorem awp_drawnS {P : Program} {G : Nat → AVal} {N : Nat} {r : Option Nat} {id : Nat} {ops : Array Oper} {Q : Exit → TS → Heap → Prop} {ts : TS} {m : Heap} (S : Nat → Nat → Prop) (ord : List (Nat × Cls)) (hord : looseOrd ops = ord)
    (hm : P.follows .mixedOrders = true) (hc : chk ops N ord = true) (h : goE P G (fun _ => .undef) (fun _ => False) S (fun _ _ _ _ => False) m (ord.map (lookD ops)) ts m (Q .normal)) : AWP P G N r (.region id ops true) Q ts m :=
  awp_drawnE ord _ _ S hm hc h

theorem Sub.hold {m m' : Heap} {b : Nat} {x : ABlk} (h : Sub m m') : Sub (hupd m b x) (hupd m' b x) := by
  intro p y hp
  simp only [hupd] at hp ⊢
  split at hp
  · rename_i e; simp [e] at hp ⊢; exact hp
  · rename_i e; simp [e]; exact h p y hp
/-- What part of a memory that holds nothing more. -/
theorem Part.here {K : AVal → Heap → Prop} {v : AVal} {m : Heap} (h : K v m) : Part K v m := ⟨m, Sub.refl m, h⟩
theorem Part.of {K : AVal → Heap → Prop} {v : AVal} {m m' : Heap} (h : K v m) (s : Sub m m') : Part K v m' := ⟨m, s, h⟩
/-- Where a function's body ends, what was made may be forgotten. -/
theorem bodyR_sub {P : Program} {rs : List ResultVar} {K : AVal → Heap → Prop} {e : Exit} {ts : TS} {m m1 : Heap} (s : Sub m1 m) (h : bodyR P rs (Part K) e ts m1) : bodyR P rs (Part K) e ts m := by
  have key : ∀ (rs : List ResultVar) (k k' : List AVal → Prop), (∀ l, k l → k' l) → resGo P rs ts m1 k → resGo P rs ts m k' := by
    intro rs
    induction rs with
    | nil => intro k k' hk h; exact hk _ h
    | cons r rs ih =>
      intro k k' hk h
      cases r with
      | tmp t => exact ih _ _ (fun l hl => hk _ hl) h
      | cell x t =>
        simp only [resGo] at h ⊢
        split at h
        · rename_i b o a n hb htk
          split at h
          · rename_i cs N hm
            rw [s b _ hm]
            exact ⟨h.1, ih _ _ (fun l hl => hk _ hl) h.2⟩
          · exact h.elim
        · exact h.elim
  cases e with
  | normal => exact key rs _ _ (fun l ⟨m2, s2, h2⟩ => ⟨m2, fun p x hp => s p x (s2 p x hp), h2⟩) h
  | ret => exact key rs _ _ (fun l ⟨m2, s2, h2⟩ => ⟨m2, fun p x hp => s p x (s2 p x hp), h2⟩) h
  | _ => exact h.elim
/-- A fact that no rule takes up. -/
def Hid (p : Prop) : Prop := p
theorem Hid.out {p : Prop} (h : Hid p) : p := h
theorem Hid.mk {p : Prop} (h : p) : Hid p := h
/-- Where a round ends: not looked into. -/
def Again (_ : Nat) (p : Prop) : Prop := p
theorem Again.intro {n : Nat} {p : Prop} (h : p) : Again n p := h
theorem isAgain {n : Nat} {p : Prop} (h : Again n p) : Again n p := h
@[congr] theorem Again_cong {n n' : Nat} {p : Prop} (h : mk n = n') : Again n p = Again n' p := by rw [mk_id] at h; rw [h]
/-- A loop whose round may forget what it made; nothing is asked of what stands behind. -/
theorem awp_loopG {P : Program} {G : Nat → AVal} {N : Nat} {r : Option Nat} {c : Code} {Q : Exit → TS → Heap → Prop} {ts : TS} {m : Heap} (I : Nat → TS → Heap → Prop) (k0 : Nat) (h0 : I k0 ts m)
    (round : ∀ k ts m, I k ts m → run P G N r c (thenA (fun ts' m' => Again 0 (∃ k', k' < k ∧ ∃ m1, Sub m1 m' ∧ I k' ts' m1)) Q) ts m) : AWP P G N r (.loop c) Q ts m := by
  refine awp_loopA (fun k ts m => ∃ m1, Sub m1 m ∧ I k ts m1) k0 ⟨m, Sub.refl m, h0⟩ ?_
  rintro k ts m ⟨m1, s, h⟩
  exact (run_sound c _ ts m1 (round k ts m1 h)).drop s

theorem condA_dec (p : Prop) [Decidable p] (yes no : Prop) (h1 : p → yes) (h2 : ¬ p → no) : condA (.bool (decide p)) yes no := ⟨fun h => h1 (by simpa using h), fun h => h2 (by simpa using h)⟩
theorem condA_beq (a b : Int) (yes no : Prop) (h1 : a = b → yes) (h2 : a ≠ b → no) : condA (.bool (a == b)) yes no := ⟨fun h => h1 (by simpa using h), fun h => h2 (by simpa using h)⟩
theorem condA_bne (a b : Int) (yes no : Prop) (h1 : a ≠ b → yes) (h2 : a = b → no) : condA (.bool (a != b)) yes no := ⟨fun h => h1 (by simpa using h), fun h => h2 (by simpa using h)⟩
theorem condA_nt (b : Bool) (yes no : Prop) (h1 : b = false → yes) (h2 : b = true → no) : condA (.bool (!b)) yes no := ⟨fun h => h1 (by simpa using h), fun h => h2 (by simpa using h)⟩
theorem gV_dec (p : Prop) [Decidable p] (want : Bool) (yes no : Prop) (h1 : p → gV (.bool true) want yes no) (h2 : ¬ p → gV (.bool false) want yes no) : gV (.bool (decide p)) want yes no := by
  by_cases h : p
  · rw [decide_eq_true h]; exact h1 h
  · rw [decide_eq_false h]; exact h2 h
theorem gV_beq (a b : Int) (want : Bool) (yes no : Prop) (h1 : a = b → gV (.bool true) want yes no) (h2 : a ≠ b → gV (.bool false) want yes no) : gV (.bool (a == b)) want yes no := by
  by_cases h : a = b
  · rw [show (a == b) = true by simpa using h]; exact h1 h
  · rw [show (a == b) = false by simpa using h]; exact h2 h
theorem gV_bne (a b : Int) (want : Bool) (yes no : Prop) (h1 : a ≠ b → gV (.bool true) want yes no) (h2 : a = b → gV (.bool false) want yes no) : gV (.bool (a != b)) want yes no := by
  by_cases h : a = b
  · rw [show (a != b) = false by simpa using h]; exact h2 h
  · rw [show (a != b) = true by simpa using h]; exact h1 h
end Go.Proofs.YtdckcophbmnjjaaGreatDoor.Ab
namespace Go.Proofs.YtdckcophbmnjjaaGreatDoor.Ab
open Go

inductive CK where
  | int (k : IntKind) | bool | str
  deriving DecidableEq
def fkFs (P : Program) (g : TypeId → Option (List CK)) : List Field → Nat → Option (List CK)
  | [], _ => some []
  | f :: fs, o => match g f.type with
    | some ks => if f.offset = o ∧ P.cellsOf f.type = ks.length then
        match fkFs P g fs (o + ks.length) with
        | some r => some (ks ++ r)
        | none => none
      else none
    | none => none
/-- The kinds of a type's cells. -/
def fk (P : Program) : Nat → TypeId → Option (List CK)
  | 0, _ => none
  | d + 1, t => match P.underlying t with
    | some .bool => some [.bool]
    | some (.int k) => some [.int k]
    | some .string => some [.str]
    | some (.struct fs) => match fkFs P (fk P d) fs.toList 0 with
      | some ks => if P.cellsOf t = ks.length then some ks else none
      | none => none
    | some (.array n e) => match fk P d e with
      | some ks => if P.cellsOf e = ks.length ∧ P.cellsOf t = n * ks.length then some (List.replicate n ks).flatten else none
      | none => none
    | _ => none
def okK : CK → Value → Prop
  | .int k, v => ∃ n, v = .int k n ∧ (Lit.int k n).wf = true
  | .bool, v => ∃ b, v = .bool b
  | .str, v => ∃ s, v = .string s ∧ s.size ≤ maxLen
def okKs : List CK → List Value → Prop
  | [], [] => True
  | k :: ks, v :: vs => okK k v ∧ okKs ks vs
  | _, _ => False
theorem okKs_len : ∀ {ks : List CK} {vs : List Value}, okKs ks vs → vs.length = ks.length
  | [], [], _ => rfl
  | k :: ks, v :: vs, h => by simp [okKs_len h.2]
  | [], _ :: _, h => h.elim
  | _ :: _, [], h => h.elim
theorem okKs_app : ∀ {ks rs : List CK} {vs us : List Value}, okKs ks vs → okKs rs us → okKs (ks ++ rs) (vs ++ us)
  | [], rs, [], us, _, h => h
  | k :: ks, rs, v :: vs, us, h, h' => ⟨h.1, okKs_app h.2 h'⟩
  | [], _, _ :: _, _, h, _ => h.elim
  | _ :: _, _, [], _, h, _ => h.elim

section
variable {H : Type} {enc : TypeId × Value → H} {P : Program} {w : World} {base : Nat} {sp : Nat → Bool} {held : Bool}

theorem fkFs_sound {g : TypeId → Option (List CK)} {cs : List Value} {tr : TypeId → List Value → Option (DataW H × List MemPlace)} (hg : ∀ t ks vs x, g t = some ks → tr t vs = some x → okKs ks vs) : ∀ (fs : List Field) (o : Nat) (ks : List CK) (xs : List (DataW H × List MemPlace)),
    fkFs P g fs o = some ks → fs.mapM (fun f => tr f.type ((cs.drop f.offset).take (P.cellsOf f.type))) = some xs → (cs.drop o).length = ks.length → okKs ks (cs.drop o)
  | [], o, ks, xs, h, _, hl => by
    simp only [fkFs, Option.some.injEq] at h
    subst h
    have : cs.drop o = [] := List.eq_nil_of_length_eq_zero (by simpa using hl)
    rw [this]; trivial
  | f :: fs, o, ks, xs, h, hm, hl => by
    simp only [fkFs] at h
    split at h
    · rename_i kf hkf
      split at h
      · rename_i hc
        split at h
        · rename_i r hr
          simp only [Option.some.injEq] at h
          subst h
          simp only [List.mapM_cons, Option.bind_eq_bind, Option.bind_eq_some_iff] at hm
          obtain ⟨x, hx, ys, hys, _⟩ := hm
          have h1 := hg _ _ _ _ hkf hx
          have h2 := fkFs_sound hg fs (o + kf.length) r ys hr hys (by simp at hl ⊢; omega)
          rw [hc.1, hc.2] at h1
          have e : cs.drop o = (cs.drop o).take kf.length ++ cs.drop (o + kf.length) := by
            rw [← List.drop_drop]; exact (List.take_append_drop _ _).symm
          rw [e]
          exact okKs_app h1 h2
        · simp at h
      · simp at h
    · simp at h

theorem mapM_at {α β : Type} {f : α → Option β} : ∀ {l : List α} {xs : List β}, l.mapM f = some xs → ∀ a, a ∈ l → ∃ x, f a = some x
  | [], _, _, a, h => by simp at h
  | b :: l, xs, h, a, ha => by
    simp only [List.mapM_cons, Option.bind_eq_bind, Option.bind_eq_some_iff] at h
    obtain ⟨x, hx, ys, hys, _⟩ := h
    rcases List.mem_cons.1 ha with rfl | ha
    · exact ⟨x, hx⟩
    · exact mapM_at hys a ha

theorem okKs_rep {ks : List CK} {cs : List Value} {n : Nat} (h : ∀ i, i < n → okKs ks ((cs.drop (i * ks.length)).take ks.length)) (hl : cs.length = n * ks.length) : ∀ j, j ≤ n → okKs (List.replicate j ks).flatten (cs.drop ((n - j) * ks.length))
  | 0, _ => by
    have : cs.drop ((n - 0) * ks.length) = [] := List.eq_nil_of_length_eq_zero (by simp [hl])
    rw [this]; trivial
  | j + 1, hj => by
    have ih := okKs_rep h hl j (by omega)
    have h1 := h (n - (j + 1)) (by omega)
    simp only [List.replicate_succ, List.flatten_cons]
    have e : cs.drop ((n - (j + 1)) * ks.length) = (cs.drop ((n - (j + 1)) * ks.length)).take ks.length ++ cs.drop ((n - j) * ks.length) := by
      have : (n - j) * ks.length = (n - (j + 1)) * ks.length + ks.length := by
        rw [show n - j = (n - (j + 1)) + 1 by omega, Nat.succ_mul]
      rw [this, ← List.drop_drop]; exact (List.take_append_drop _ _).symm
    rw [e]
    exact okKs_app h1 ih

/-- What a value's cells are, by its type's kinds. -/
theorem trod_flat : ∀ (d : Nat) (t : TypeId) (ks : List CK), fk P d t = some ks → ∀ (fuel : Nat) (cs : List Value) (x : DataW H × List MemPlace), DataW.trod enc P w base sp held fuel t cs = some x → okKs ks cs
  | 0, t, ks, h, _, _, _, _ => by simp [fk] at h
  | d + 1, t, ks, h, 0, cs, x, hx => by simp [DataW.trod] at hx
  | d + 1, t, ks, h, fuel + 1, cs, x, hx => by
    have ih := trod_flat d
    simp only [fk] at h
    split at h
    · rename_i hu
      simp only [Option.some.injEq] at h; subst h
      simp only [DataW.trod, hu] at hx
      split at hx <;> simp_all
      exact ⟨⟨_, rfl⟩, trivial⟩
    · rename_i k hu
      simp only [Option.some.injEq] at h; subst h
      simp only [DataW.trod, hu] at hx
      split at hx <;> simp_all
      exact ⟨⟨_, rfl, hx.1.2⟩, trivial⟩
    · rename_i hu
      simp only [Option.some.injEq] at h; subst h
      simp only [DataW.trod, hu] at hx
      split at hx <;> simp_all
      exact ⟨⟨_, rfl, hx.1⟩, trivial⟩
    · rename_i fs hu
      split at h
      · rename_i ks' hk
        split at h
        · rename_i hc
          simp only [Option.some.injEq] at h; subst h
          have hx' : (if cs.length = P.cellsOf t then (fs.toList.mapM fun f => DataW.trod enc P w base sp held fuel f.type ((cs.drop f.offset).take (P.cellsOf f.type))).map fun xs => (DataW.agg (xs.map (·.1)), xs.flatMap (·.2)) else none) = some x := by
            unfold DataW.trod at hx
            simp only [hu] at hx
            exact hx
          split at hx'
          · rename_i hl
            obtain ⟨xs, hxs, _⟩ := Option.map_eq_some_iff.1 hx'
            have := fkFs_sound (P := P) (g := fk P d) (cs := cs) (tr := DataW.trod enc P w base sp held fuel) (fun t ks vs y h1 h2 => ih t ks h1 fuel vs y h2) fs.toList 0 ks' xs hk hxs (by simp; omega)
            simpa using this
          · simp at hx'
        · simp at h
      · simp at h
    · rename_i n e hu
      split at h
      · rename_i ks' hk
        split at h
        · rename_i hc
          simp only [Option.some.injEq] at h; subst h
          have hx' : (if cs.length = P.cellsOf t then ((List.range n).mapM fun i => DataW.trod enc P w base sp held fuel e ((cs.drop (i * P.cellsOf e)).take (P.cellsOf e))).map fun xs => (DataW.agg (xs.map (·.1)), xs.flatMap (·.2)) else none) = some x := by
            unfold DataW.trod at hx
            simp only [hu] at hx
            exact hx
          split at hx'
          · rename_i hl
            obtain ⟨xs, hxs, _⟩ := Option.map_eq_some_iff.1 hx'
            have hall : ∀ i, i < n → okKs ks' ((cs.drop (i * ks'.length)).take ks'.length) := by
              intro i hi
              obtain ⟨y, hy⟩ := mapM_at hxs i (List.mem_range.2 hi)
              have := ih e ks' hk fuel _ y hy
              rw [hc.1] at this; exact this
            have := okKs_rep hall (by rw [hl, hc.2]) n (Nat.le_refl _)
            simpa using this
          · simp at hx'
        · simp at h
      · simp at h
    · simp at h

/-- A struct, or an array, that comes in. -/
theorem open_agg {d : Nat} {t : TypeId} {ks : List CK} {v : Value} {D : DataW H} {ps : List MemPlace} {b0 : Nat} {r : Reach} (hk : fk P d t = some ks) (hagg : (match P.underlying t with | some (.struct _) | some (.array _ _) => true | _ => false) = true)
    (hval : Value.okWide P w r b0 t v) (hd : DataW.Trod enc P w base sp held t v D ps) : ∃ cs : List Value, v = .agg cs.toArray ∧ okKs ks cs := by
  have : ∃ cs, v = .agg cs := by
    unfold Value.okWide at hval
    split at hval
    · obtain ⟨cs, h, _⟩ := hval; exact ⟨cs, h⟩
    · obtain ⟨cs, h, _⟩ := hval; exact ⟨cs, h⟩
    · rename_i h1 h2
      split at hagg <;> simp_all
  obtain ⟨cs, rfl⟩ := this
  obtain ⟨fuel, hf⟩ := hd
  exact ⟨cs.toList, by simp, trod_flat d t ks hk fuel _ _ hf⟩

/-- An element: an aggregate, or one cell. -/
def mkEl (a : Bool) (z : List Value) : AVal := if a then .agg (z.map ofCell) else (z.map ofCell).getD 0 .undef
theorem cells?_at {a : Addr} {n : Nat} {cs : List Value} (h : w.cells? base a n = some cs) : cs.length = n ∧ ∀ i, i < n → w.cell? (a.add i) = some (cs.getD i Go.undef) := by
  unfold World.cells? at h
  split at h
  · have key : ∀ (l : List Nat) (cs : List Value), l.mapM (fun i => w.cell? (a.add i)) = some cs → cs.length = l.length ∧ ∀ i, i < l.length → w.cell? (a.add (l.getD i 0)) = some (cs.getD i Go.undef) := by
      intro l
      induction l with
      | nil => intro cs h; simp at h; subst h; simp
      | cons x l ih =>
        intro cs h
        simp only [List.mapM_cons, Option.bind_eq_bind, Option.bind_eq_some_iff] at h
        obtain ⟨y, hy, ys, hys, h⟩ := h
        simp at h; subst h
        obtain ⟨k1, k2⟩ := ih ys hys
        refine ⟨by simp [k1], fun i hi => ?_⟩
        cases i with
        | zero => simpa using hy
        | succ i => simpa [List.getD_eq_getElem?_getD] using k2 i (by simpa using hi)
    obtain ⟨k1, k2⟩ := key _ _ h
    refine ⟨by simpa using k1, fun i hi => ?_⟩
    have := k2 i (by simpa using hi)
    simpa [List.getD_eq_getElem?_getD, hi] using this
  · simp at h

/-- A slice that comes in: a list. -/
theorem open_list {d : Nat} {t e : TypeId} {ks : List CK} {agg : Bool} {v : Value} {D : DataW H} {ps : List MemPlace} {b0 : Nat} {r : Reach} (ht : P.underlying t = some (.slice e)) (hk : fk P d e = some ks) (hsz : P.cellsOf e = ks.length) (h0 : 0 < ks.length)
    (hagg : agg = true ∨ ks.length = 1) (hval : Value.okWide P w r b0 t v) (hd : DataW.Trod enc P w base sp held t v D ps) :
    ∃ zs : List (List Value), (∀ z, z ∈ zs → okKs ks z) ∧ zs.length ≤ maxLen ∧ VRel (fun _ => none) w (.list ks.length (zs.map (mkEl agg))) v := by
  have hv : v.cells = #[v] := by
    simp only [Value.okWide, ht, Cell.okWide, Cell.ok] at hval
    cases v <;> simp_all [Value.cells]
  obtain ⟨fuel, hf⟩ := hd
  rw [hv] at hf
  rcases Go.Deep.open_slice ht hf with ⟨h, _⟩ | ⟨a, len, cap, m, n, Dd, Pl, h, hb, hlc, hcm, hm, _, hel⟩
  · simp at h; subst h
    exact ⟨[], by simp, by simp, .list0 _ _ _⟩
  · simp at h; subst h
    have hlm : len ≤ m := by rw [hm]; split <;> omega
    have hex : ∀ i, i < len → ∃ cs', w.cells? base (a.add (i * ks.length)) ks.length = some cs' ∧ okKs ks cs' := by
      intro i hi
      obtain ⟨cs', h1, h2⟩ := hel i (by omega)
      rw [hsz] at h1
      exact ⟨cs', h1, trod_flat d e ks hk n cs' _ h2⟩
    let g : Nat → List Value := fun i => if h : i < len then (hex i h).choose else []
    have hg : ∀ i, i < len → w.cells? base (a.add (i * ks.length)) ks.length = some (g i) ∧ okKs ks (g i) := by
      intro i hi; simp only [g, hi, dif_pos]; exact (hex i hi).choose_spec
    refine ⟨(List.range len).map g, ?_, by simp; omega, ?_⟩
    · intro z hz
      obtain ⟨i, hi, rfl⟩ := List.mem_map.1 hz
      exact (hg i (List.mem_range.1 hi)).2
    · by_cases hl : len = 0
      · subst hl; exact .list0 _ _ _
      · have hview : a.spot = none := by
          have := World.cell?_spot ((cells?_at (hg 0 (by omega)).1).2 0 h0)
          simpa [Addr.add] using this
        obtain ⟨ab, ao, av⟩ := a
        simp only at hview; subst hview
        have hlen : ((List.range len).map g |>.map (mkEl agg)).length = len := by simp
        conv => rhs; rw [← hlen]
        have hget : ∀ i, i < len → (((List.range len).map g).map (mkEl agg)).getD i .undef = mkEl agg (g i) := by
          intro i hi; simp [List.getD_eq_getElem?_getD, hi]
        have hcells : ∀ i, i < len → (mkEl agg (g i)).cells = (g i).map ofCell := by
          intro i hi
          unfold mkEl
          cases agg with
          | true => rfl
          | false =>
            have h1 : (g i).length = 1 := by
              rw [okKs_len (hg i hi).2]
              rcases hagg with h | h
              · cases h
              · exact h
            match hgi : g i, h1 with
            | [x], _ =>
              simp only [List.map_cons, List.map_nil, List.getD_cons_zero, Bool.false_eq_true, if_false]
              unfold ofCell
              split <;> rfl
        refine .list ks.length _ ab ao cap (fun i j => (g i).getD j Go.undef) rfl ?_ (by rw [hlen]; exact hlc) (fun i hi => ?_) (fun i j hi hj => ?_) (fun i j hi hj => ?_)
        · obtain ⟨k1, k2⟩ := cells?_at (hg 0 (by omega)).1
          have := k2 0 h0
          by_cases hlt : ab < w.heap.size
          · exact hlt
          · exfalso
            rw [addr_add, addr_add] at this
            simp [World.cell?, Array.getElem?_eq_none (Nat.le_of_not_lt hlt)] at this
        · rw [hlen] at hi
          rw [hget i hi, hcells i hi, List.length_map, okKs_len (hg i hi).2]
        · rw [hlen] at hi
          obtain ⟨k1, k2⟩ := cells?_at (hg i hi).1
          have := k2 j hj
          rw [addr_add, addr_add, Nat.add_assoc] at this
          exact this
        · rw [hlen] at hi
          rw [hget i hi, hcells i hi]
          have hj' : j < (g i).length := by rw [okKs_len (hg i hi).2]; exact hj
          have : ((g i).map ofCell).getD j .undef = ofCell ((g i).getD j Go.undef) := by
            simp [List.getD_eq_getElem?_getD, hj']
          rw [this]; exact ofCell_rel _ _ _
end
/-- A list of values of one make. -/
theorem list_of {α : Type} {ks : List CK} {agg : Bool} (f : α → AVal) (Q : α → Prop) (h : ∀ z, okKs ks z → ∃ x, mkEl agg z = f x ∧ Q x) : ∀ (zs : List (List Value)), (∀ z, z ∈ zs → okKs ks z) → ∃ l : List α, zs.map (mkEl agg) = l.map f ∧ (∀ x ∈ l, Q x) ∧ l.length = zs.length
  | [], _ => ⟨[], rfl, by simp, rfl⟩
  | z :: zs, hz => by
    obtain ⟨l, h1, h2, h3⟩ := list_of f Q h zs (fun y hy => hz y (by simp [hy]))
    obtain ⟨x, g1, g2⟩ := h z (hz z (by simp))
    exact ⟨x :: l, by simp [h1, g1], by simpa using ⟨g2, h2⟩, by simp [h3]⟩
theorem okKs_nil {vs : List Value} (h : okKs [] vs) : vs = [] := by
  cases vs with
  | nil => rfl
  | cons => exact h.elim
theorem okKs_int {k : IntKind} {ks : List CK} {vs : List Value} (h : okKs (.int k :: ks) vs) : ∃ n r, vs = .int k n :: r ∧ (k.min ≤ n ∧ n ≤ k.max) ∧ okKs ks r := by
  cases vs with
  | nil => exact h.elim
  | cons v r =>
    obtain ⟨⟨n, rfl, hw⟩, h2⟩ := h
    exact ⟨n, r, rfl, by simpa [Lit.wf] using hw, h2⟩
theorem okKs_bool {ks : List CK} {vs : List Value} (h : okKs (.bool :: ks) vs) : ∃ b r, vs = .bool b :: r ∧ okKs ks r := by
  cases vs with
  | nil => exact h.elim
  | cons v r =>
    obtain ⟨⟨b, rfl⟩, h2⟩ := h
    exact ⟨b, r, rfl, h2⟩
end Go.Proofs.YtdckcophbmnjjaaGreatDoor.Ab
namespace Go.Proofs.YtdckcophbmnjjaaGreatDoor.Ab
open Go

def jumpA (l : Nat) (J : TS → Heap → Prop) (Q : Exit → TS → Heap → Prop) : Exit → TS → Heap → Prop
  | .goto l', ts, m => l' = l ∧ J ts m
  | e, ts, m => Q e ts m
theorem jumpA_normal (l : Nat) (J : TS → Heap → Prop) (Q : Exit → TS → Heap → Prop) (ts : TS) (m : Heap) : jumpA l J Q .normal ts m = Q .normal ts m := rfl
theorem jumpA_ret (l : Nat) (J : TS → Heap → Prop) (Q : Exit → TS → Heap → Prop) (ts : TS) (m : Heap) : jumpA l J Q .ret ts m = Q .ret ts m := rfl
theorem jumpA_exit (l id : Nat) (J : TS → Heap → Prop) (Q : Exit → TS → Heap → Prop) (ts : TS) (m : Heap) : jumpA l J Q (.exit id) ts m = Q (.exit id) ts m := rfl
theorem jumpA_goto (l : Nat) (J : TS → Heap → Prop) (Q : Exit → TS → Heap → Prop) (ts : TS) (m : Heap) : jumpA l J Q (.goto l) ts m = J ts m := by simp [jumpA]
theorem thenA_goto (l : Nat) (next : TS → Heap → Prop) (Q : Exit → TS → Heap → Prop) (ts : TS) (m : Heap) : thenA next Q (.goto l) ts m = Q (.goto l) ts m := rfl
theorem blockA_goto (id l : Nat) (Q : Exit → TS → Heap → Prop) (ts : TS) (m : Heap) : blockA id Q (.goto l) ts m = Q (.goto l) ts m := rfl
theorem run_goto {P : Program} {G : Nat → AVal} {N : Nat} {r : Option Nat} (l : Nat) (Q : Exit → TS → Heap → Prop) (ts : TS) (m : Heap) : run P G N r (.goto l) Q ts m = Q (.goto l) ts m := rfl
theorem run_label {P : Program} {G : Nat → AVal} {N : Nat} {r : Option Nat} (l : Nat) (Q : Exit → TS → Heap → Prop) (ts : TS) (m : Heap) : run P G N r (.label l) Q ts m = Q .normal ts m := rfl
theorem run_scope {P : Program} {G : Nat → AVal} {N : Nat} {r : Option Nat} (c : Code) (Q : Exit → TS → Heap → Prop) (ts : TS) (m : Heap) : run P G N r (.scope c) Q ts m = AWP P G N r (.scope c) Q ts m := rfl

/-- What must hold where a loop is left by one exit; by others: as Q. -/
def exitA (id : Nat) (Post : TS → Heap → Prop) (Q : Exit → TS → Heap → Prop) : Exit → TS → Heap → Prop
  | .exit id', ts, m => if id' = id then Again 1 (Post ts m) else Q (.exit id') ts m
  | e, ts, m => Q e ts m
theorem exitA_ret (id : Nat) (Post : TS → Heap → Prop) (Q : Exit → TS → Heap → Prop) (ts : TS) (m : Heap) : exitA id Post Q .ret ts m = Q .ret ts m := rfl
theorem exitA_normal (id : Nat) (Post : TS → Heap → Prop) (Q : Exit → TS → Heap → Prop) (ts : TS) (m : Heap) : exitA id Post Q .normal ts m = Q .normal ts m := rfl
theorem exitA_goto (id l : Nat) (Post : TS → Heap → Prop) (Q : Exit → TS → Heap → Prop) (ts : TS) (m : Heap) : exitA id Post Q (.goto l) ts m = Q (.goto l) ts m := rfl
theorem exitA_exit (id id' : Nat) (Post : TS → Heap → Prop) (Q : Exit → TS → Heap → Prop) (ts : TS) (m : Heap) : exitA id Post Q (.exit id') ts m = if id' = id then Again 1 (Post ts m) else Q (.exit id') ts m := rfl
/-- A loop that is left by one exit in what Post says. -/
theorem awp_loopP {P : Program} {G : Nat → AVal} {N : Nat} {r : Option Nat} {c : Code} {Q : Exit → TS → Heap → Prop} {ts : TS} {m : Heap} (id : Nat) (Post : TS → Heap → Prop) (I : Nat → TS → Heap → Prop) (k0 : Nat) (h0 : I k0 ts m)
    (round : ∀ k ts m, I k ts m → run P G N r c (thenA (fun ts' m' => Again 0 (∃ k', k' < k ∧ ∃ m1, Sub m1 m' ∧ I k' ts' m1)) (exitA id Post Q)) ts m)
    (rest : ∀ ts m, Post ts m → Q (.exit id) ts m) : AWP P G N r (.loop c) Q ts m := by
  refine (awp_loopG I k0 h0 round).mono ?_
  intro e ts m h
  cases e with
  | exit id' =>
    simp only [exitA] at h
    split at h
    · rename_i he; subst he; exact rest ts m h
    · exact h
  | _ => exact h
theorem W_wide : W none = Fence.wide := rfl
/-- A scope in which the run jumps back to one label. -/
theorem awp_scope {P : Program} {G : Nat → AVal} {N : Nat} {c rest : Code} {Q : Exit → TS → Heap → Prop} {ts : TS} {m : Heap} (l : Nat) (hf : findLabel c l = some rest) (I : Nat → TS → Heap → Prop)
    (first : run P G N none c (jumpA l (fun ts' m' => Again 0 (∃ k m1, Sub m1 m' ∧ I k ts' m1)) Q) ts m)
    (pass : ∀ k ts m, I k ts m → run P G N none rest (jumpA l (fun ts' m' => Again 0 (∃ k', k' < k ∧ ∃ m1, Sub m1 m' ∧ I k' ts' m1)) Q) ts m) : AWP P G N none (.scope c) Q ts m := by
  classical
  intro B w a hB hs hg ht hd
  let Inv : Nat → Act → World → Prop := fun k a' w' => ∃ ts' m', (∃ m1, Sub m1 m' ∧ I k ts' m1) ∧ Sat m' w' ∧ TRel N m' w' ts' a' ∧ Ext m w m' w' ∧ DefOK B m' w' a'.defers
  let least : Act → World → Nat → Prop := fun a' w' j => Inv j a' w' ∧ ∀ i, Inv i a' w' → j ≤ i
  have hleast : ∀ a' w' j, Inv j a' w' → ∃ i, least a' w' i := by
    intro a' w' j
    induction j using Nat.strongRecOn with
    | _ j ih =>
      intro hj
      by_cases hm : ∃ i, i < j ∧ Inv i a' w'
      · obtain ⟨i, hi, hi'⟩ := hm; exact ih i hi hi'
      · exact ⟨j, hj, fun i hi => Nat.le_of_not_lt fun hlt => hm ⟨i, hlt, hi⟩⟩
  let μ : Act → World → Nat := fun a' w' => if h : ∃ i, least a' w' i then h.choose else 0
  have conv : ∀ (c : Code) (Q' : Exit → Act → World → Prop) (a : Act) (w : World), c.wpIn (W none) 0 P Q' a w ↔ c.wp P Q' a w := fun c Q' a w => by rw [W_wide]; exact wpIn_wide
  rw [conv]
  refine wp_scope_jumps l (fun a' w' => ∃ k, Inv k a' w') μ hf ?_ ?_
  · rw [← conv]
    refine wpIn_mono (run_sound c _ ts m first B w a hB hs hg ht hd) ?_
    rintro e a' w' ⟨ts', m', hk, hs', ht', he', hd'⟩
    cases e with
    | goto l' =>
      obtain ⟨rfl, k, m1, s, hi⟩ := hk
      exact ⟨rfl, k, ts', m', ⟨m1, s, hi⟩, hs', ht', he', hd'⟩
    | _ => exact ⟨ts', m', hk, hs', ht', he', hd'⟩
  · rintro a' w' ⟨k', hk'⟩
    have hex := hleast a' w' k' hk'
    have hμ : μ a' w' = hex.choose := by simp only [μ]; rw [dif_pos hex]
    obtain ⟨hl1, hl2⟩ := hex.choose_spec
    rw [← hμ] at hl1 hl2
    obtain ⟨ts', m', ⟨m1, s, hi⟩, hs', ht', he', hd'⟩ := hl1
    rw [← conv]
    have hrun := (run_sound rest _ ts' m1 (pass _ ts' m1 hi)).drop s
    refine wpIn_mono (hrun B w' a' (Nat.le_trans hB he'.size) hs' (hg.ext he') ht' hd') ?_
    rintro e a'' w'' ⟨ts'', m'', hk, hs'', ht'', he'', hd''⟩
    cases e with
    | goto l' =>
      obtain ⟨rfl, k'', hlt, hi''⟩ := hk
      have hinv : Inv k'' a'' w'' := ⟨ts'', m'', hi'', hs'', ht'', he'.trans he'', hd''⟩
      refine ⟨rfl, ⟨k'', hinv⟩, ?_⟩
      have hex2 := hleast a'' w'' k'' hinv
      have hμ2 : μ a'' w'' = hex2.choose := by simp only [μ]; rw [dif_pos hex2]
      have := hex2.choose_spec.2 k'' hinv
      omega
    | _ => exact ⟨ts'', m'', hk, hs'', ht'', he'.trans he'', hd''⟩

/-- math/bits.Add64. -/
theorem add64_wp {P : Program} {G : Nat → AVal} {f : FuncId} {fn : Func} (hf : P.funcs[f]? = some fn) (hname : (fn.name == "runtime.NumGoroutine") = false) (hb : fn.body.isNone = true) (hn : Extern.findNext fn = none) (he : Extern.find fn = some add64Entry)
    (x y c : Int) (hx : 0 ≤ x) (hy : 0 ≤ y) (hc0 : 0 ≤ c) (hc : c ≤ 1) (m : Heap) :
    CallWP P G f [.int .u64 x, .int .u64 y, .int .u64 c] m fun v m' => v = .tuple [.int .u64 ((x + y + c) % 18446744073709551616), .int .u64 ((x + y + c) / 18446744073709551616)] ∧ m' = m := by
  refine .inr fun w cargs hs hg hl hv => ?_
  have hargs : cargs = #[.int .u64 x, .int .u64 y, .int .u64 c] := by
    obtain ⟨l⟩ := cargs
    match l, hl, hv with
    | [p, q, r], _, hv =>
      have h0 := hv 0 (by simp); have h1 := hv 1 (by simp); have h2 := hv 2 (by simp)
      simp at h0 h1 h2
      cases h0; cases h1; cases h2; rfl
  subst hargs
  refine ⟨.tuple #[.int .u64 ((x + y + c) % 18446744073709551616), .int .u64 ((x + y + c) / 18446744073709551616)], _, m, ?_, ⟨rfl, rfl⟩, ?_, hs, Ext.refl _ _⟩
  · rw [run_callFunc_extern hf hname hb hn he, run_add64 x y c hx hy hc0 hc]; rfl
  · refine .tuple _ _ rfl (fun i hi => ?_)
    match i with
    | 0 => exact .int _ _
    | 1 => exact .int _ _
end Go.Proofs.YtdckcophbmnjjaaGreatDoor.Ab
namespace Go.Proofs.YtdckcophbmnjjaaGreatDoor.Ab
open Go

theorem wrap_u64 (x : Int) : IntKind.u64.wrap x = x % 18446744073709551616 := by
  simp [IntKind.wrap, IntKind.bits, IntKind.signed]
theorem wrap_u64' {x : Int} (h0 : 0 ≤ x) (h1 : x < 18446744073709551616) : IntKind.u64.wrap x = x := by
  rw [wrap_u64]; omega
theorem wrap_i64 {x : Int} (h : -9223372036854775808 ≤ x) (h' : x < 9223372036854775808) : IntKind.i64.wrap x = x := by
  unfold IntKind.wrap; simp [IntKind.signed, IntKind.bits]; omega
theorem wrap_i64_range (x : Int) : -9223372036854775808 ≤ IntKind.i64.wrap x ∧ IntKind.i64.wrap x < 9223372036854775808 := by
  unfold IntKind.wrap; simp [IntKind.signed, IntKind.bits]; omega
theorem bv_nat (n : Nat) : (BitVec.ofInt 64 (n : Int)).toNat = n % 18446744073709551616 := by
  simp [BitVec.toNat_ofInt]
theorem abits_nat (op : BinOp) (f : Nat → Nat → Nat) (hf : ∀ a b : BitVec 64, (match op with | .and => (a &&& b).toNat | .or => (a ||| b).toNat | _ => (a ^^^ b).toNat) = f a.toNat b.toNat) (hop : op = .and ∨ op = .or ∨ op = .xor) (hlt : ∀ a b, a < 18446744073709551616 → b < 18446744073709551616 → f a b < 18446744073709551616)
    (x y : Nat) (hx : x < 18446744073709551616) (hy : y < 18446744073709551616) : abits op .u64 x y = ((f x y : Nat) : Int) := by
  have e1 : (BitVec.ofInt 64 (x : Int)).toNat = x := by rw [bv_nat]; omega
  have e2 : (BitVec.ofInt 64 (y : Int)).toNat = y := by rw [bv_nat]; omega
  have h := hf (BitVec.ofInt 64 (x : Int)) (BitVec.ofInt 64 (y : Int))
  have hl := hlt x y hx hy
  rcases hop with rfl | rfl | rfl <;>
  · simp only at h
    rw [e1, e2] at h
    exact (congrArg (fun n : Nat => IntKind.u64.wrap (n : Int)) h).trans (wrap_u64' (by omega) (by omega))
theorem and_lt64 (a b : Nat) (h : a < 18446744073709551616) (_ : b < 18446744073709551616) : a &&& b < 18446744073709551616 := Nat.lt_of_le_of_lt Nat.and_le_left h
theorem or_lt64 (a b : Nat) (h : a < 18446744073709551616) (h' : b < 18446744073709551616) : a ||| b < 18446744073709551616 := Nat.or_lt_two_pow (n := 64) h h'
theorem and_u64 (x y : Nat) (hx : x < 18446744073709551616) (hy : y < 18446744073709551616) : abits .and .u64 x y = ((x &&& y : Nat) : Int) :=
  abits_nat .and (· &&& ·) (fun a b => by simp) (.inl rfl) and_lt64 x y hx hy
theorem or_u64 (x y : Nat) (hx : x < 18446744073709551616) (hy : y < 18446744073709551616) : abits .or .u64 x y = ((x ||| y : Nat) : Int) :=
  abits_nat .or (· ||| ·) (fun a b => by simp) (.inr (.inl rfl)) or_lt64 x y hx hy
/-- The lowest 32 bits. -/
theorem low32 {x : Int} (h0 : 0 ≤ x) (h1 : x < 18446744073709551616) : abits .and .u64 x 4294967295 = x % 4294967296 := by
  obtain ⟨n, rfl⟩ := Int.eq_ofNat_of_zero_le h0
  rw [show (4294967295 : Int) = ((4294967295 : Nat) : Int) from rfl, and_u64 n 4294967295 (by omega) (by omega)]
  have : n &&& 4294967295 = n % 4294967296 := Nat.and_two_pow_sub_one_eq_mod n 32
  rw [this]; omega
theorem shr_u64 {x s : Int} (h0 : 0 ≤ x) (hs : 0 ≤ s) (hs' : s ≤ 64) : ashr .u64 x s = x / 2 ^ s.toNat := by
  have e : min s.toNat 64 = s.toNat := by omega
  simp only [ashr, IntKind.bits, e]
  exact Int.fdiv_eq_ediv_of_nonneg _ (Int.le_of_lt (Int.pow_pos (by decide)))
theorem shr32 {x : Int} (h0 : 0 ≤ x) : ashr .u64 x 32 = x / 4294967296 := by
  rw [shr_u64 h0 (by decide) (by decide)]; rfl
theorem shl_u64 {x s : Int} (hs : 0 ≤ s) (hs' : s ≤ 64) : ashl .u64 x s = (x * 2 ^ s.toNat) % 18446744073709551616 := by
  have e : min s.toNat 64 = s.toNat := by omega
  simp only [ashl, IntKind.bits, e, wrap_u64]
theorem shl32 {x : Int} : ashl .u64 x 32 = (x * 4294967296) % 18446744073709551616 := by
  rw [shl_u64 (by decide) (by decide)]; rfl
/-- What is above, and what is below. -/
theorem or_disj {a b : Nat} (s : Nat) (hb : b < 2 ^ s) (h : a * 2 ^ s + b < 18446744073709551616) : abits .or .u64 ((a * 2 ^ s : Nat) : Int) b = ((a * 2 ^ s + b : Nat) : Int) := by
  rw [or_u64 _ _ (by omega) (by omega)]
  have := Nat.shiftLeft_add_eq_or_of_lt hb a
  rw [Nat.shiftLeft_eq] at this
  rw [this]
theorem or32 {x y : Int} (h0 : 0 ≤ x) (h1 : x < 4294967296) (h2 : 0 ≤ y) (h3 : y < 4294967296) : abits .or .u64 (x * 4294967296) y = x * 4294967296 + y := by
  obtain ⟨a, rfl⟩ := Int.eq_ofNat_of_zero_le h0
  obtain ⟨b, rfl⟩ := Int.eq_ofNat_of_zero_le h2
  have := or_disj (a := a) (b := b) 32 (by omega) (by omega)
  rw [show (2 : Nat) ^ 32 = 4294967296 from rfl] at this
  have e : ((a : Int) * 4294967296) = ((a * 4294967296 : Nat) : Int) := by omega
  rw [e, this]; omega

/-! Signs -/
theorem bv_neg (x : Int) (h : -9223372036854775808 ≤ x) (h' : x < 9223372036854775808) : (BitVec.ofInt 64 x).msb = decide (x < 0) := by
  rw [BitVec.msb_eq_toInt, BitVec.toInt_ofInt]
  congr 1
  simp only [Int.bmod]
  simp; omega
theorem wrap_bv (b : BitVec 64) : IntKind.i64.wrap (b.toNat : Int) = b.toInt := by
  rw [BitVec.toInt_eq_toNat_cond]
  unfold IntKind.wrap
  simp [IntKind.signed, IntKind.bits]
  have := b.isLt
  split <;> split <;> omega
theorem abits_neg (op : BinOp) (g : Bool → Bool → Bool) (x y : Int) (hg : abits op .i64 x y = IntKind.i64.wrap ((match op with | .and => (BitVec.ofInt 64 x &&& BitVec.ofInt 64 y) | .or => (BitVec.ofInt 64 x ||| BitVec.ofInt 64 y) | _ => (BitVec.ofInt 64 x ^^^ BitVec.ofInt 64 y)).toNat))
    (hm : (match op with | .and => (BitVec.ofInt 64 x &&& BitVec.ofInt 64 y) | .or => (BitVec.ofInt 64 x ||| BitVec.ofInt 64 y) | _ => (BitVec.ofInt 64 x ^^^ BitVec.ofInt 64 y)).msb = g (BitVec.ofInt 64 x).msb (BitVec.ofInt 64 y).msb)
    (hx : -9223372036854775808 ≤ x) (hx' : x < 9223372036854775808) (hy : -9223372036854775808 ≤ y) (hy' : y < 9223372036854775808) : decide (abits op .i64 x y < 0) = g (decide (x < 0)) (decide (y < 0)) := by
  rw [hg, wrap_bv, ← bv_neg x hx hx', ← bv_neg y hy hy', ← hm, BitVec.msb_eq_toInt]
theorem xor_neg (x y : Int) (hx : -9223372036854775808 ≤ x) (hx' : x < 9223372036854775808) (hy : -9223372036854775808 ≤ y) (hy' : y < 9223372036854775808) : decide (abits .xor .i64 x y < 0) = (decide (x < 0) != decide (y < 0)) :=
  abits_neg .xor (· != ·) x y rfl (by simp) hx hx' hy hy'
theorem and_neg (x y : Int) (hx : -9223372036854775808 ≤ x) (hx' : x < 9223372036854775808) (hy : -9223372036854775808 ≤ y) (hy' : y < 9223372036854775808) : decide (abits .and .i64 x y < 0) = (decide (x < 0) && decide (y < 0)) :=
  abits_neg .and (· && ·) x y rfl (by simp) hx hx' hy hy'
theorem abits_range (op : BinOp) (x y : Int) : -9223372036854775808 ≤ abits op .i64 x y ∧ abits op .i64 x y < 9223372036854775808 := by
  unfold abits
  split <;> exact wrap_i64_range _

/-- What is known of a call of the library's whose world stays. -/
theorem CallWP.ofCalls {P : Program} {G : Nat → AVal} {f : FuncId} {args : List AVal} {m : Heap} {v : AVal} (cargs : Array Value) (x : Value) (he : enters P f = true) (h : ∀ w, Calls P f cargs w fun e w' => e = .returned x ∧ w' = w)
    (ha : ∀ (w : World) (c : Array Value), args.length = c.size → (∀ i, i < args.length → VRel m w (args.getD i .undef) (c.getD i Go.undef)) → c = cargs) (hv : ∀ w, VRel m w v x) : CallWP P G f args m fun v' m' => v' = v ∧ m' = m := by
  refine .inl ⟨he, fun w c hs hg hl hr => ?_⟩
  rw [ha w c hl hr]
  refine (h w).mono ?_
  rintro e w' ⟨rfl, rfl⟩
  exact ⟨x, v, m, rfl, ⟨rfl, rfl⟩, hv _, hs, Ext.refl _ _⟩
theorem args_int1 {m : Heap} {w : World} {k : IntKind} {n : Int} {c : Array Value} (hl : [AVal.int k n].length = c.size) (hr : ∀ i, i < [AVal.int k n].length → VRel m w ([AVal.int k n].getD i .undef) (c.getD i Go.undef)) : c = #[.int k n] := by
  obtain ⟨l⟩ := c
  match l, hl, hr with
  | [p], _, hr =>
    have h0 := hr 0 (by simp)
    simp at h0; cases h0; rfl
theorem args_int2 {m : Heap} {w : World} {k k' : IntKind} {n n' : Int} {c : Array Value} (hl : [AVal.int k n, .int k' n'].length = c.size) (hr : ∀ i, i < [AVal.int k n, .int k' n'].length → VRel m w ([AVal.int k n, .int k' n'].getD i .undef) (c.getD i Go.undef)) : c = #[.int k n, .int k' n'] := by
  obtain ⟨l⟩ := c
  match l, hl, hr with
  | [p, q], _, hr =>
    have h0 := hr 0 (by simp); have h1 := hr 1 (by simp)
    simp at h0 h1; cases h0; cases h1; rfl
end Go.Proofs.YtdckcophbmnjjaaGreatDoor.Ab
