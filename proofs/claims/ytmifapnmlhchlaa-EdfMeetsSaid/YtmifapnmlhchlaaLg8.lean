/- The library's sort by a function, at rows of structs that a call owns. -/
import Derived.Test.YtmifapnmlhchlaaLg7
import Derived.Shelf.SlSortCmp.WholeK
set_option linter.all false
namespace Go.Proofs.Ytmifapnmlhchlaa.Ab
open Go Go.Sort Go.Shelf Go.Proofs

/-- A call that leaves all memory: what is behind it is the world, with draws and new blocks. -/
theorem grown_of {P : Program} {f : FuncId} {args : List AVal} {cargs : Array Value} {w : World} {n : Int} {k : IntKind} (he : enters P f = true)
    (h : CallWP P (fun _ => .undef) f args (fun _ => none) fun v m' => v = .int k n ∧ m' = fun _ => none) (hl : args.length = cargs.size)
    (hv : ∀ i, i < args.length → VRel (fun _ => none) w (args.getD i .undef) (cargs.getD i Go.undef)) :
    Calls P f cargs w fun e w' => e = .returned (.int k n) ∧ ∃ q os', w' = grow (w.drewN q) os' := by
  have h : CallIn P (fun _ => .undef) f args (fun _ => none) fun v m' => v = .int k n ∧ m' = fun _ => none := by
    rcases h with h | h
    · exact h
    · exfalso
      obtain ⟨x, v, m', h1, _⟩ := h w cargs (fun b x hb => by cases hb) (fun g => .undef _) hl hv
      rw [run_enters he] at h1
      cases h1
  refine (h.2 w cargs (fun b x hb => by cases hb) (fun g => .undef _) hl hv).mono ?_
  rintro e w' ⟨cv, v, m', rfl, ⟨rfl, rfl⟩, hr, hs, ext⟩
  cases hr
  refine ⟨rfl, w'.drawn - w.drawn, w'.heap.extract w.heap.size w'.heap.size, ?_⟩
  obtain ⟨e1, e2, e3, ⟨e4, e5⟩, e6⟩ := ext
  have hh : w'.heap = w.heap ++ w'.heap.extract w.heap.size w'.heap.size := by
    apply Array.ext_getElem?
    intro i
    by_cases hi : i < w.heap.size
    · rw [(e6 i hi rfl).1, Array.getElem?_append_left hi]
    · rw [Array.getElem?_append_right (by omega), Array.getElem?_extract]
      by_cases h2 : i < w'.heap.size
      · rw [if_pos (by omega)]; congr 1; omega
      · rw [if_neg (by omega), Array.getElem?_eq_none (by omega)]
  cases w' with
  | mk hp tp dr os out =>
    cases w with
    | mk hp0 tp0 dr0 os0 out0 =>
      simp only at e1 e2 e3 e4 e5 hh
      subst e2 e3 e4
      simp only [grow, World.drewN]
      rw [← hh, show dr0 + (dr - dr0) = dr by omega]

section
variable {P : Program} {ρ : Ren} {α : Type} [Inhabited α]
theorem flat_cells (enc : α → List Value) (k : Nat) (h : ∀ x, (enc x).length = k) (C : List α) (R : List AVal) (j : Nat) (hj : j < C.length * k) :
    (C.flatMap (fun x => (enc x).map ofCell) ++ R).getD j .undef = ofCell ((flatK enc k C.toArray)[j]!) := by
  have k0 : 0 < k := by
    rcases Nat.eq_zero_or_pos k with h' | h'
    · rw [h'] at hj; simp at hj
    · exact h'
  rw [get_flatK _ _ _ _ (by simpa using hj)]
  have hd : j / k < C.length := (Nat.div_lt_iff_lt_mul k0).2 hj
  have hm : j % k < k := Nat.mod_lt _ k0
  have e := flat_at (enc := fun x => (enc x).map ofCell) (sz := k) (fun x => by simp [h]) C R (j / k) hd
  have ej : j / k * k + j % k = j := by rw [Nat.mul_comm]; exact Nat.div_add_mod j k
  have g : (C.flatMap (fun x => (enc x).map ofCell) ++ R)[j]? = ((((C.flatMap (fun x => (enc x).map ofCell) ++ R).drop (j / k * k)).take k))[j % k]? := by
    rw [List.getElem?_take, if_pos hm, List.getElem?_drop, ej]
  rw [List.getD_eq_getElem?_getD, g, e]
  have hl : j % k < (enc C[j / k]).length := by rw [h]; exact hm
  simp [hd, hl]
theorem mem_flatK (enc : α → List Value) (k : Nat) (h : ∀ x, (enc x).length = k) (d : Array α) (j : Nat) (hj : j < d.size * k) : ∃ x, (flatK enc k d)[j]! ∈ enc x := by
  have k0 : 0 < k := by
    rcases Nat.eq_zero_or_pos k with h' | h'
    · rw [h'] at hj; simp at hj
    · exact h'
  refine ⟨d[j / k]!, ?_⟩
  rw [get_flatK _ _ _ _ hj]
  have hl : j % k < (enc d[j / k]!).length := by rw [h]; exact Nat.mod_lt _ k0
  rw [getElem!_pos (enc d[j / k]!) (j % k) hl]
  exact List.getElem_mem hl
set_option maxHeartbeats 1000000 in
theorem pdq_wp {G : Nat → AVal} (L : SlLaysF0.n14 P ρ) (k : Nat) (aE : ∀ w, (isAgg (ρ.t 24)).run P w = .ok true w) (zE : ∀ w, (Go.sizeOf (ρ.t 24)).run P w = .ok k w) (enc : α → List Value) (hk : ∀ x, (enc x).length = k) (h1 : ∀ x, ∀ v ∈ enc x, v.oneCell' = true)
    (hu : ∀ x, ∀ v ∈ enc x, ∀ m w y, VRel m w (ofCell v) y → y = v) (cf : α → α → Int) (hO : SWO (ltOf cf)) (g : Nat) (hg : enters P g = true)
    (hc : ∀ x y, CallWP P (fun _ => .undef) g [.agg ((enc x).map ofCell), .agg ((enc y).map ofCell)] (fun _ => none) fun v m' => v = .int .i64 (cf x y) ∧ m' = fun _ => none)
    (fid : Nat) (hf : ρ.f 14 = fid) (he : enters P fid = true) (C : List α) (pre post : List AVal) (N pb cap limit : Nat) (m : Heap) (K : AVal → Heap → Prop) (hm : m pb = some (.cells (pre ++ (C.flatMap (fun x => (enc x).map ofCell) ++ post)) N)) (hn : C.length < 4611686018427387904) (hlim : limit < 4611686018427387904)
    (hK : ∀ C' : List α, C'.Perm C → Srt (ltOf cf) C' → K (.tuple []) (hupd m pb (.cells (pre ++ (C'.flatMap (fun x => (enc x).map ofCell) ++ post)) N))) :
    CallWP P G fid [.slice pb pre.length C.length cap, .int .i64 0, .int .i64 C.length, .int .i64 limit, .func (.func g) [] []] m K := by
  refine .inl ⟨he, fun w cargs hs hgo hl hv => ?_⟩
  have hargs : cargs = #[.slice (some ⟨pb, pre.length, none⟩) C.toArray.size cap, .int .i64 (0 : Nat), .int .i64 (C.toArray.size : Nat), .int .i64 (limit : Nat), .func (.func g) #[] #[]] := by
    obtain ⟨l⟩ := cargs
    match l, hl, hv with
    | [p, q1, q2, q3, q], _, hv =>
      have h0 := hv 0 (by simp); have h2 := hv 1 (by simp); have h3 := hv 2 (by simp); have h4 := hv 3 (by simp); have h1 := hv 4 (by simp)
      simp at h0 h1 h2 h3 h4
      cases h0
      cases h2
      cases h3
      cases h4
      cases h1 with
      | func _ _ _ fs' cs' e1 e2 _ _ =>
        have a1 : fs' = #[] := Array.eq_empty_of_size_eq_zero (by simpa using e1.symm)
        have a2 : cs' = #[] := Array.eq_empty_of_size_eq_zero (by simpa using e2.symm)
        subst a1 a2
        simp
  obtain ⟨arr, ty, b1, b2, b3, b4⟩ := hs pb _ hm
  have hlenc : ∀ C : List α, (C.flatMap (fun x => (enc x).map ofCell)).length = C.length * k := fun C => flat_len (enc := fun x => (enc x).map ofCell) (sz := k) (fun x => by simp [hk]) C
  have hlen : (pre ++ (C.flatMap (fun x => (enc x).map ofCell) ++ post)).length = pre.length + (C.length * k + post.length) := by rw [List.length_append, List.length_append, hlenc]
  have hblk : pb < w.heap.size := (Array.getElem?_eq_some_iff.1 b1).1
  have hval : ∀ j, j < C.length * k → arr.getD (pre.length + j) Go.undef = (flatK enc k C.toArray)[j]! := by
    intro j hj
    have := b4 (pre.length + j) (by omega)
    have e : (pre ++ (C.flatMap (fun x => (enc x).map ofCell) ++ post)).getD (pre.length + j) .undef = ofCell ((flatK enc k C.toArray)[j]!) := by
      rw [List.getD_eq_getElem?_getD, List.getElem?_append_right (by omega), Nat.add_sub_cancel_left, ← List.getD_eq_getElem?_getD]
      exact flat_cells enc k hk C post j hj
    rw [e] at this
    obtain ⟨x, hx⟩ := mem_flatK enc k hk C.toArray j (by simpa using hj)
    exact hu x _ hx _ _ _ this
  have hH : HoldsK enc k w pb pre.length C.toArray := by
    intro j hj
    have hj' : j < C.length * k := by simpa using hj
    have hlt : pre.length + j < arr.size := by omega
    refine ⟨?_, ?_⟩
    · have := hval j hj'
      simp only [World.cell?, b1, Option.isSome_none, Bool.false_eq_true, if_false, id]
      rw [← this]
      simp [Array.getD_eq_getD_getElem?, hlt]
    · simp [World.frozen?, b1]
  have eg : ∀ args w, (callFunc g args).run P w = .ok (.enter g args) w := fun args w => run_enters hg args w
  have hcmp : CmpLays P g #[] enc k cf pb pre.length C.toArray.size w := by
    intro mm os dk _ x y
    refine grown_of (args := [.agg ((enc x).map ofCell), .agg ((enc y).map ofCell)]) hg (hc x y) (by simp) ?_
    have ra : ∀ z : α, VRel (fun _ => none) (sortWorldK enc k w pb pre.length mm dk os) (.agg ((enc z).map ofCell)) (.agg (enc z).toArray) := by
      intro z
      refine .agg _ _ (by simp) (fun i hi => ?_)
      have hi' : i < (enc z).length := by simpa using hi
      have e1 : ((enc z).map ofCell).getD i .undef = ofCell ((enc z).toArray.getD i Go.undef) := by
        simp [List.getD_eq_getElem?_getD, Array.getD_eq_getD_getElem?, hi']
      rw [e1]; exact ofCell_rel _ _ _
    intro i hi
    match i, hi with
    | 0, _ => exact ra x
    | 1, _ => exact ra y
  have h := AnyQ.pdqsortCmpFunc_all L k aE zE enc cf g #[] hO pb pre.length cap C.toArray w eg hcmp ⟨hk, h1, hH, hblk⟩ (C.toArray.size + 1) 0 C.toArray.size limit C.toArray w (by omega) rfl (SWK.start hH) (Nat.zero_le _) (Nat.le_refl _) (by simpa using hn) hlim (Or.inl rfl)
  rw [hf] at h
  rw [hargs]
  refine h.mono ?_
  rintro e w' ⟨rfl, n, os, rfl⟩
  obtain ⟨hp, hsd⟩ := pdq_sorts (ltOf cf) hO C.toArray 0 C.toArray.size limit true true (Nat.zero_le _) (Nat.le_refl _) (Or.inl rfl)
  generalize pdq (ltOf cf) C.toArray 0 C.toArray.size limit true true = d' at hp hsd ⊢
  obtain ⟨p1, p2, p3⟩ := hp
  have hperm : d'.toList.Perm C := by
    have e1 : d'.extract 0 C.toArray.size = d' := by rw [← p1]; simp
    have e2 : C.toArray.extract 0 C.toArray.size = C.toArray := by simp
    rw [e1, e2] at p3
    simpa using p3
  have hdl : d'.toList.length = C.length := hperm.length_eq
  have hsz : d'.size = C.length := by simpa using p1
  have hsrt : Srt (ltOf cf) d'.toList := by
    refine srt_of _ (fun p q hpq hq => ?_)
    have := hsd p q (Nat.zero_le _) hpq (by simpa [hdl] using hq)
    have hq' : q < d'.size := by simpa using hq
    have hp' : p < d'.size := by omega
    rw [getElem!_pos d' q hq', getElem!_pos d' p hp'] at this
    simpa [List.getD_eq_getElem?_getD, hq', hp'] using this
  have hheap : (sortWorldK enc k w pb pre.length n d' os).heap[pb]? = some (.cells (putCells id pre.length (flatK enc k d') arr) ty (0, 0)) := by
    simp only [sortWorldK, putRowK, putRow, mapBlock, Go.Sort.ahead, grow]
    rw [Array.getElem?_append_left (by simpa using hblk), Array.getElem?_modify, if_pos rfl, b1]
    rfl
  have hother : ∀ b, b < w.heap.size → b ≠ pb → (sortWorldK enc k w pb pre.length n d' os).heap[b]? = w.heap[b]? := by
    intro b hb hne
    simp only [sortWorldK, putRowK, putRow, mapBlock, Go.Sort.ahead, grow]
    rw [Array.getElem?_append_left (by simpa using hb), Array.getElem?_modify, if_neg (Ne.symm hne)]
  have hext : Ext m w (hupd m pb (.cells (pre ++ (d'.toList.flatMap (fun x => (enc x).map ofCell) ++ post)) N)) (sortWorldK enc k w pb pre.length n d' os) := by
    refine ⟨?_, rfl, rfl, ⟨rfl, ?_⟩, fun b hb hmb => ?_⟩
    · simp [sortWorldK, putRowK, putRow, mapBlock, Go.Sort.ahead, grow]
    · simp [sortWorldK, putRowK, putRow, mapBlock, Go.Sort.ahead, grow]
    · have hne : b ≠ pb := fun e => by rw [e, hm] at hmb; cases hmb
      exact ⟨hother b hb hne, by rw [hupd_ne hne]; exact hmb⟩
  refine ⟨.tuple #[], .tuple [], _, rfl, hK _ hperm hsrt, .tuple [] #[] rfl (fun i hi => by simp at hi), ?_, hext⟩
  intro b x hx
  by_cases hb : b = pb
  · subst hb
    rw [hupd_at, if_pos rfl] at hx
    cases hx
    rw [hheap]
    refine ⟨_, ty, rfl, by simp [putCells, b2], ?_, fun i hi => ?_⟩
    · rw [List.length_append, List.length_append, hlenc, hdl]; omega
    · rw [List.length_append, List.length_append, hlenc, hdl] at hi
      have hia : i < arr.size := by omega
      have hput : (putCells id pre.length (flatK enc k d') arr).getD i Go.undef = if pre.length ≤ i ∧ i < pre.length + C.length * k then (flatK enc k d')[i - pre.length]! else arr.getD i Go.undef := by
        simp only [putCells, Array.getD_eq_getD_getElem?, Array.getElem?_mapIdx, size_flatK, hsz]
        rw [Array.getElem?_eq_getElem hia]
        simp only [Option.map_some, Option.getD_some, id]
      rw [hput]
      by_cases hin : pre.length ≤ i ∧ i < pre.length + C.length * k
      · rw [if_pos hin]
        have e : (pre ++ (d'.toList.flatMap (fun x => (enc x).map ofCell) ++ post)).getD i .undef = ofCell ((flatK enc k d'.toList.toArray)[i - pre.length]!) := by
          rw [List.getD_eq_getElem?_getD, List.getElem?_append_right (by omega), ← List.getD_eq_getElem?_getD]
          exact flat_cells enc k hk d'.toList post (i - pre.length) (by rw [hdl]; omega)
        rw [e]
        have ed : d'.toList.toArray = d' := by simp
        rw [ed]
        exact ofCell_rel _ _ _
      · rw [if_neg hin]
        have hold := (b4 i (by omega)).ext hext
        have e : (pre ++ (d'.toList.flatMap (fun x => (enc x).map ofCell) ++ post)).getD i .undef = (pre ++ (C.flatMap (fun x => (enc x).map ofCell) ++ post)).getD i .undef := by
          simp only [List.getD_eq_getElem?_getD]
          congr 1
          by_cases h0 : i < pre.length
          · rw [List.getElem?_append_left h0, List.getElem?_append_left h0]
          · have h1 : pre.length ≤ i := by omega
            have l1 : (d'.toList.flatMap (fun x => (enc x).map ofCell)).length ≤ i - pre.length := by rw [hlenc, hdl]; omega
            have l2 : (C.flatMap (fun x => (enc x).map ofCell)).length ≤ i - pre.length := by rw [hlenc]; omega
            rw [List.getElem?_append_right h1, List.getElem?_append_right h1, List.getElem?_append_right l1, List.getElem?_append_right l2, hlenc, hlenc, hdl]
        rw [e]; exact hold
  · rw [hupd_ne hb] at hx
    have := (hs b x hx).ext hext
    rw [hother b (hs.lt hx) hb]
    exact this
end
end Go.Proofs.Ytmifapnmlhchlaa.Ab
