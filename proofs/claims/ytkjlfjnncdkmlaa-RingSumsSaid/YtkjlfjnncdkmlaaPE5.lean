/- Helpers and walks, in one text. -/
import Derived.Test.YtkjlfjnncdkmlaaPE4
import Derived.ProofKit
import Derived.OpenShut
import Derived.ShutString
import Derived.ChangeOld
import Derived.SliceStrings
import Derived.Deep.Matrix
import Derived.WideShapes
/- Walks: the balanced coefficients of an element (the program's). -/
namespace Go.Proofs.Ytkjlfjnncdkmlaa.G
set_option linter.all false
open Go.RowKit Go.Shelf Go.BigFrame
attribute [local go_sem] Oper.semAt_some
/-- All moduli are primes. -/
def AllP (ml : List Nat) : Prop := ∀ q ∈ ml, PrimeP q
/-- A list under way in a box. -/
def WideI {k : Nat} (w W2 : World) (lb : Nat) (m : Fin k → Nat) (pre : List (Fin k)) (W : World) : Prop :=
  (∃ sv, W.heap[lb]? = some (.cells #[sv] 23) ∧ W.owns W2.heap.size 22 1 sv pre.length ((pre.map m).map u32V)) ∧ (∀ x ∈ pre, PrimeP (m x)) ∧ KeepP (fun b => b < W2.heap.size ∧ b ≠ lb) W2 W ∧ Below w.heap.size w W ∧ W2.heap.size ≤ W.heap.size
theorem wideI_own {k : Nat} (w W2 : World) (lb : Nat) (hlb : lb < W2.heap.size) (hw : w.heap.size ≤ W2.heap.size) (m : Fin k → Nat) : OwnFrom W2.heap.size (WideI w W2 lb m) := by
  rintro pre W W' row ⟨⟨sv, h1, h2⟩, h3, h4, h5, h6⟩ hg hr
  have hc : ∀ (g : Nat) (c : Array Value) (t : TypeId) (fz : Nat × Nat), W.heap[g]? = some (.cells c t fz) → W'.heap[g]? = W.heap[g]? := fun g c t fz h => grownBy_keeps_cells hg (fun r e => (hr r e).2) h rfl
  exact ⟨⟨sv, (hc _ _ _ _ h1).trans h1, h2.keptBy (fun g c fz _ h => hc g c _ fz h)⟩, h3, h4.grown hg (fun b hb => Nat.lt_of_lt_of_le hb.1 h6) (fun r e hb => by have := (hr r e).1; have := hb.1; omega),
    h5.grown hg h5.size (fun r e => by have := (hr r e).1; omega), Nat.le_trans h6 hg.size⟩
/-- The forms of integers, one behind the other; the first j of them. -/
def wPart (F : Nat → Int) (n j : Nat) : Array Value := ((List.range (2 * n)).map fun c => if c / 2 < j then (if c % 2 = 0 then Value.bool (zN (F (c / 2))) else Value.string (zT (F (c / 2)))) else (if c % 2 = 0 then Value.bool false else Value.string ⟨#[]⟩)).toArray
def wArr (F : Nat → Int) (n : Nat) : Array Value := wPart F n n
theorem wPart_size (F : Nat → Int) (n j : Nat) : (wPart F n j).size = 2 * n := by simp [wPart]
theorem wPart_get {F : Nat → Int} {n j c : Nat} (hc : c < 2 * n) : (wPart F n j)[c]? = some (if c / 2 < j then (if c % 2 = 0 then Value.bool (zN (F (c / 2))) else Value.string (zT (F (c / 2)))) else (if c % 2 = 0 then Value.bool false else Value.string ⟨#[]⟩)) := by
  unfold wPart
  rw [List.getElem?_toArray, List.getElem?_map, List.getElem?_range hc]
  rfl
theorem wPart_set {F : Nat → Int} {n j : Nat} (hj : j < n) : ((wPart F n j).setIfInBounds (2 * j) (.bool (zN (F j)))).setIfInBounds (2 * j + 1) (.string (zT (F j))) = wPart F n (j + 1) := by
  apply Array.ext_getElem?
  intro c
  by_cases hc : c < 2 * n
  · rw [wPart_get hc, Array.getElem?_setIfInBounds, Array.getElem?_setIfInBounds]
    by_cases h1 : 2 * j + 1 = c
    · rw [if_pos h1, if_pos (by simp [wPart_size]; omega), if_pos (by omega), if_neg (by omega), show c / 2 = j by omega]
    · rw [if_neg h1]
      by_cases h2 : 2 * j = c
      · rw [if_pos h2, if_pos (by rw [wPart_size]; omega), if_pos (by omega), if_pos (by omega), show c / 2 = j by omega]
      · rw [if_neg h2, wPart_get hc]
        by_cases h3 : c / 2 < j
        · have h4 : c / 2 < j + 1 := by omega
          simp only [h3, h4, if_true]
        · have h4 : ¬ c / 2 < j + 1 := by omega
          simp only [h3, h4, if_false]
  · rw [Array.getElem?_eq_none (by simp [wPart_size]; omega), Array.getElem?_eq_none (by rw [wPart_size]; omega)]
theorem infoWide : (Try.prog.info? 42).map (fun i => (i.zero, i.size, i.bytes)) = some (some (.agg #[.bool false, .string ⟨#[]⟩]), 2, 24) := by kernel_rfl
theorem make_wide (n : Nat) (hn : n ≤ 1000) (F : Nat → Int) (W : World) : (Instr.makeSlice 37 (.int .i64 (n : Int)) (.int .i64 (n : Int))).run Try.prog W = .ok (.slice (some ⟨W.heap.size, 0, none⟩) n n) (W.alloc (.cells (wPart F n 0) 42)) := by
  obtain ⟨i0, hi, hz, h1, h2⟩ := info_parts infoWide
  have := run_make (P := Try.prog) W 37 42 i0 (.agg #[.bool false, .string ⟨#[]⟩]) Try.underlying37 hi hz .i64 .i64 (n : Int) (n : Int) (by omega) (by omega) (by rw [h2]; omega) (by omega)
  simp only [Int.toNat_natCast, h1] at this
  rw [this]
  have hz : madeCells (Value.agg #[.bool false, .string ⟨#[]⟩]).cells (n * 2) = wPart F n 0 := by
    have hc : (Value.agg #[.bool false, .string ⟨#[]⟩]).cells = #[.bool false, .string ⟨#[]⟩] := rfl
    rw [hc]
    apply Array.ext_getElem?
    intro c
    by_cases h : c < 2 * n
    · rw [wPart_get h, if_neg (by omega)]
      unfold madeCells
      rw [Array.getElem?_map, Array.getElem?_range, if_pos (by omega)]
      rcases (show c % 2 = 0 ∨ c % 2 = 1 by omega) with h3 | h3
      · simp [h3]
      · simp [h3]
    · rw [Array.getElem?_eq_none (by rw [size_madeCells]; omega), Array.getElem?_eq_none (by rw [wPart_size]; omega)]
  rw [hz]
theorem okTo_dist {chain : List Nat} {k : Nat} (h : okTo chain k = true) {i q : Nat} (hi : i < k) (hq : chain[i]? = some q) : q ∉ chain.take i := by
  unfold okTo at h
  rw [List.all_eq_true] at h
  have := h i (List.mem_range.2 hi)
  rw [hq] at this
  simp only [Option.all_some, Bool.and_eq_true, Bool.not_eq_true'] at this
  intro hm
  have h2 := (hasB_iff (chain.take i) q).2 hm
  rw [h2] at this
  cases this.2
theorem sys_modl {N : Int} {chain : List Nat} {sp lv : Nat} {s : Bool} (hv : validB N chain sp = true) (hp : placeB chain sp (lv : Int) s = true) (hA : AllP (modl chain sp lv s)) : SysP (modl chain sp lv s) := by
  obtain ⟨l1, l2⟩ := validB_len hv
  obtain ⟨k, hk, k1, k2⟩ := levB_nat hp
  obtain rfl : lv = k := by omega
  have hml := modl_length chain sp lv s k2
  have hv2 := hv
  unfold validB at hv2
  simp only [Bool.and_eq_true] at hv2
  refine ⟨by omega, by rw [hml]; cases s <;> simp <;> omega, fun i hi p hpi => ?_⟩
  have hm := List.mem_of_getElem? hpi
  obtain ⟨q1, q2⟩ := modl_ok2 hv hp p hm
  by_cases h : i < lv
  · have e1 : chain[i]? = some p := by
      unfold modl at hpi
      rwa [List.getElem?_append_left (by rw [List.length_take]; omega), List.getElem?_take, if_pos h] at hpi
    have e2 : (modl chain sp lv s).take i = chain.take i := by
      unfold modl
      rw [List.take_append_of_le_length (by rw [List.length_take]; omega), List.take_take, Nat.min_eq_left (by omega)]
    have hmb := okTo_get hv2.2 i p (by omega) e1
    refine ⟨?_, q2, ?_, hA p hm⟩
    · unfold modB at hmb
      simp only [Bool.and_eq_true, decide_eq_true_eq] at hmb
      exact hmb.2
    · rw [e2]; exact okTo_dist hv2.2 (by omega) e1
  · cases s with
    | false => simp at hml; omega
    | true =>
      have hil : i = lv := by simp at hml; omega
      subst hil
      have e1 : p = sp := by
        unfold modl at hpi
        rw [List.getElem?_append_right (by rw [List.length_take]; omega), List.length_take, Nat.min_eq_left k2, Nat.sub_self] at hpi
        simp at hpi
        exact hpi.symm
      subst e1
      have e2 : (modl chain p i true).take i = chain.take i := by
        unfold modl
        rw [List.take_append_of_le_length (by rw [List.length_take]; omega), List.take_take, Nat.min_eq_left (by omega)]
      have h1 : p ≠ 0 := by omega
      have h2 := hv2.1.2.2
      unfold spB at h2
      simp [h1] at h2
      refine ⟨?_, q2, ?_, hA p hm⟩
      · have := h2.1
        unfold modB at this
        simp only [Bool.and_eq_true, decide_eq_true_eq] at this
        exact this.2
      · rw [e2]
        intro hm2
        have := (hasB_iff chain p).2 (List.mem_of_mem_take hm2)
        rw [h2.2] at this
        cases this
/-- What Wides answers. -/
def WidesPost (ok : Bool) (n : Nat) (F : Nat → Int) (w : World) (e : Ending) (w' : World) : Prop :=
  (if ok then ∃ g, e = .returned (.tuple #[.slice (some ⟨g, 0, none⟩) n n, .int .i64 0]) ∧ w.heap.size ≤ g ∧ w'.heap[g]? = some (.cells (wArr F n) 42)
    else e = .returned (.tuple #[.slice none 0 0, .int .i64 2])) ∧ Below w.heap.size w w'
theorem reads_keep {W W' : World} {B B' : Nat} {v : Value} {xs : List Value} (h : W.reads B v xs) (hB : B ≤ B') (hk : ∀ b, b < B → W'.heap[b]? = W.heap[b]?) : W'.reads B' v xs := by
  obtain ⟨a, cap, hv, hn, hz, hmx, hc⟩ := h
  refine ⟨a, cap, hv, hn, hz, hmx, fun j u hj => ?_⟩
  obtain ⟨b, off, ha, hb, hcell⟩ := hc j u hj
  exact ⟨b, off, ha, Nat.lt_of_lt_of_le hb hB, (World.cell?_of_block (a := ⟨b, off + j, none⟩) (hk b hb)).trans hcell⟩
set_option maxRecDepth 100000 in
set_option maxHeartbeats 16000000 in
theorem Wides_any (N pr pw wt er : Int) (cv : Value) (chain : List Nat) (sp : Nat) (la : Int) (sa : Bool) (av : Value) (xs : List (List Nat)) (w : World) (hr : w.reads w.heap.size cv (chain.map u32V)) (hrow : w.rows u32V w.heap.size av xs) (ok : Bool) (hok : ok = true ↔ checkB N chain sp la sa xs = true ∧ AllP (modl chain sp la.toNat sa)) :
    Calls Try.prog 14 #[.agg #[.int .i64 N, .int .u32 pr, .int .i64 pw, cv, .int .u32 (sp : Int), .int .i64 wt, .int .u32 er], .agg #[.int .i64 la, .bool sa, av]] w (WidesPost ok N.toNat (wC (modl chain sp la.toNat sa) xs) w) := by
  obtain ⟨W0, hW0⟩ : ∃ W0, W0 = ((((w.alloc (.cells #[.int .i64 N, .int .u32 pr, .int .i64 pw, cv, .int .u32 (sp : Int), .int .i64 wt, .int .u32 er] 25)).alloc (.cells #[.int .i64 la, .bool sa, av] 28)).alloc (.cells #[.slice none 0 0] 37)).alloc (.cells #[.int .i64 0] 34)) := ⟨_, rfl⟩
  have hB0 : Below w.heap.size w W0 := by rw [hW0]; exact ((((Below.refl _ w).alloc (Nat.le_refl _) _).alloc (by simp) _).alloc (by first | (simp; done) | (simp; omega)) _).alloc (by first | (simp; done) | (simp; omega)) _
  have hp0 : W0.heap[w.heap.size]? = some (.cells #[.int .i64 N, .int .u32 pr, .int .i64 pw, cv, .int .u32 (sp : Int), .int .i64 wt, .int .u32 er] 25) := by
    rw [hW0, Below.heap_alloc _ _ _ (by first | (simp; done) | (simp; omega)), Below.heap_alloc _ _ _ (by first | (simp; done) | (simp; omega)), Below.heap_alloc _ _ _ (by simp)]; exact alloc_last _ _ rfl
  have ha0 : W0.heap[w.heap.size + 1]? = some (.cells #[.int .i64 la, .bool sa, av] 28) := by
    rw [hW0, Below.heap_alloc _ _ _ (by first | (simp; done) | (simp; omega)), Below.heap_alloc _ _ _ (by simp)]; exact alloc_last _ _ (by simp)
  have hrc0 : W0.heap[w.heap.size + 1 + 1]? = some (.cells #[.slice none 0 0] 37) := by
    rw [hW0, Below.heap_alloc _ _ _ (by simp)]; exact alloc_last _ _ (by simp)
  have hc0 : W0.heap[w.heap.size + 1 + 1 + 1]? = some (.cells #[.int .i64 0] 34) := by
    rw [hW0]; exact alloc_last _ _ (by simp)
  have hz0 := lt_of_heap hc0
  have hr0 := (hr.below hB0).mono hB0.size
  have hrow0 := (hrow.below hB0).mono hB0.size
  have HCH := Lib.hid (checkE N pr pw wt er cv chain sp la sa av xs W0 hr0 hrow0)
  obtain ⟨aa, ac, rfl, hac, ham, hsh⟩ := hrow0.shape
  obtain ⟨pa, pc, rfl, -⟩ := reads_u32 hr0
  have HSH := Lib.hid hsh
  have HR0 := Lib.hid hr0
  have HROW0 := Lib.hid hrow0
  have HP0 := Lib.hid hp0
  have HA0 := Lib.hid ha0
  have HRC0 := Lib.hid hrc0
  have HC0 := Lib.hid hc0
  have HOK := Lib.hid hok
  have HW0 := Lib.hid hW0
  have HB0 := Lib.hid hB0
  obtain ⟨HPOST, hpost⟩ : ∃ R, R = WidesPost ok N.toNat (wC (modl chain sp la.toNat sa) xs) w := ⟨_, rfl⟩
  rw [← hpost]
  have HP := Lib.hid hpost
  clear hr hrow hr0 hrow0 hsh hok hW0 hB0 hpost
  have r0 : W0.cell? ⟨w.heap.size + 1 + 1, 0, none⟩ = some (.slice none 0 0) := by simp [World.cell?, hrc0]
  have r1 : W0.frozen? ⟨w.heap.size + 1 + 1, 0, none⟩ = false := by simp [World.frozen?, hrc0]
  have s0 : W0.cell? ⟨w.heap.size + 1 + 1 + 1, 0, none⟩ = some (.int .i64 0) := by simp [World.cell?, hc0]
  have s1 : W0.frozen? ⟨w.heap.size + 1 + 1 + 1, 0, none⟩ = false := by simp [World.frozen?, hc0]
  obtain ⟨c0, c1, c2, c3, c4, c5, c6⟩ := par_cells hp0
  obtain ⟨k0, k1, k2, -, -, -⟩ := elem_cells ha0
  clear hp0 ha0 hrc0 hc0
  unfold ErrPost errI at HCH
  obtain ⟨ck, hck⟩ : ∃ c, c = checkB N chain sp la sa xs := ⟨_, rfl⟩
  rw [← hck] at HCH
  have HCK := Lib.hid hck
  clear hck
  refine (callsIn_wide (n := 5)).1 ?_
  refine callsIn_of_wp_marks Try.func14 rfl trivial ?_ rfl
  simp only [Try.ntmps14, List.size_toArray, List.length_cons, List.length_nil, Nat.reduceAdd, Nat.reduceSub, Array.replicate_succ, Array.replicate_zero, List.push_toArray, List.append_toArray, List.nil_append, List.cons_append]
  gi_upto_region 1 with (fail)
  rw [← HW0.out]
  cases ck with
  | false =>
    obtain rfl : ok = false := by
      cases h : ok
      · rfl
      · have := (HOK.out.1 h).1
        rw [← HCK.out] at this; cases this
    gi_wp2_with fail
    refine ⟨trivial, (callsIn_wide.2 HCH.out).mono ?_⟩
    rintro e w1 ⟨rfl, hb1⟩
    have g1 := hold_heap HRC0.out hb1
    have g2 := hold_heap HC0.out hb1
    clear c0 c1 c2 c3 c4 c5 c6 k0 k1 k2 r0 r1 s0 s1
    have r0 : w1.cell? ⟨w.heap.size + 1 + 1, 0, none⟩ = some (.slice none 0 0) := by simp [World.cell?, g1]
    have r1 : w1.frozen? ⟨w.heap.size + 1 + 1, 0, none⟩ = false := by simp [World.frozen?, g1]
    have s0 : w1.cell? ⟨w.heap.size + 1 + 1 + 1, 0, none⟩ = some (.int .i64 0) := by simp [World.cell?, g2]
    have s1 : w1.frozen? ⟨w.heap.size + 1 + 1 + 1, 0, none⟩ = false := by simp [World.frozen?, g2]
    gi_wp2
    rw [HP.out]
    refine postM_ret (v := .tuple #[.slice none 0 0, .int .i64 2]) ?_ rfl ⟨rfl, ?_⟩
    · simp [results, Try.results14, go_sem, g1, g2, World.cell?, World.setCell, Array.getElem?_modify]
    · exact ((below_via HB0.out hb1).setCell (by simp; omega) _).setCell (by simp; omega) _
  | true =>
    obtain ⟨n, lv, rfl, rfl, i1, i2, i3, i4, i5, i6, i7⟩ := checkB_elt HCK.out.symm
    gi_wp2_with fail
    refine ⟨trivial, (callsIn_wide.2 HCH.out).mono ?_⟩
    rintro e w1 ⟨rfl, hb1⟩
    gi_upto_region 4 with (fail)
    obtain ⟨WL, hWL⟩ : ∃ W, W = w1.alloc (.cells #[.slice none 0 0] 23) := ⟨_, rfl⟩
    rw [← hWL]
    have hbL : Below w1.heap.size w1 WL := by rw [hWL]; exact (Below.refl _ _).alloc (Nat.le_refl _) _
    have hgL : WL.heap[w1.heap.size]? = some (.cells #[.slice none 0 0] 23) := by rw [hWL]; exact heap_alloc_new w1 _
    have HSZL : Hid (WL.heap.size = w1.heap.size + 1) := by show _ = _; rw [hWL]; simp
    have hbL0 : Below W0.heap.size W0 WL := below_via hb1 hbL
    have hpL := hold_heap HP0.out hbL0
    have haL := hold_heap HA0.out hbL0
    clear c0 c1 c2 c3 c4 c5 c6 k0 k1 k2 r0 r1 s0 s1 hWL
    obtain ⟨k0, k1, k2, -, -, -⟩ := elem_cells haL
    gi_wp2_with fail
    refine ⟨trivial, (moduli_in _ _ _ _ _).mono ?_⟩
    rintro e w2 ⟨rfl, rfl⟩
    gi_wp2_with fail
    obtain ⟨W2, hW2⟩ : ∃ W2, W2 = ((WL.alloc (.cells #[.pointer (some ⟨w.heap.size, 0, none⟩)] 63)).alloc (.cells #[.int .i64 (lv : Int)] 3)).alloc (.cells #[.bool sa] 4) := ⟨_, rfl⟩
    have hB2L : Below WL.heap.size WL W2 := by rw [hW2]; exact (((Below.refl _ WL).alloc (Nat.le_refl _) _).alloc (by simp) _).alloc (by simp; omega) _
    have m0 : W2.heap[WL.heap.size]? = some (.cells #[.pointer (some ⟨w.heap.size, 0, none⟩)] 63) := by
      rw [hW2, Below.heap_alloc _ _ _ (by simp; omega), Below.heap_alloc _ _ _ (by simp)]; exact alloc_last _ _ rfl
    have m1 : W2.heap[WL.heap.size + 1]? = some (.cells #[.int .i64 (lv : Int)] 3) := by
      rw [hW2, Below.heap_alloc _ _ _ (by simp)]; exact alloc_last _ _ (by simp)
    have m2 : W2.heap[WL.heap.size + 2]? = some (.cells #[.bool sa] 4) := by
      rw [hW2]; exact alloc_last _ _ (by simp)
    have hz2 := lt_of_heap m2
    have hszL := HSZL.out
    have hB20 : Below W0.heap.size W0 W2 := below_via hbL0 hB2L
    have hB2 : Below w.heap.size w W2 := below_via HB0.out hB20
    have hp2 := hold_heap HP0.out hB20
    have ha2 := hold_heap HA0.out hB20
    have hl2 := hold_heap hgL hB2L
    have hrc2 := hold_heap HRC0.out hB20
    have hcc2 := hold_heap HC0.out hB20
    have hr2 := HR0.out.below hB20
    have hs1 := hb1.size
    have hs2 := hB20.size
    rw [← hW2]
    clear hW2 k0 k1 k2
    have hSC := hr2.blk (by simp; omega)
    have hlbs : w1.heap.size < W2.heap.size := lt_of_heap hl2
    have hml : (modl chain sp lv sa).length ≤ 25 := by rw [modl_length _ _ _ _ i4]; cases sa <;> simp <;> omega
    obtain ⟨i0, hi0, hiz, hiz1, hizb⟩ := info_parts infoU32
    have hmax : ∀ x, modAt (modl chain sp lv sa) x < 4294967296 := fun x => by have := i6 _ (List.getElem_mem x.isLt); show (modl chain sp lv sa)[x.val] < _; omega
    have HST := moduli_stops 4 (by omega) WL.heap.size w.heap.size (fun b => b < W2.heap.size ∧ b ≠ w1.heap.size) (n : Int) pr pw wt er _ chain sp lv sa W0.heap.size i4 (by omega) W2 (fun _ h => h.1) ⟨by omega, by omega⟩ ⟨by omega, by omega⟩ ⟨by omega, by omega⟩ ⟨by omega, by omega⟩
        (fun a n c b off h1 h2 => by have := hSC a n c b off h1 h2; omega) m0 m1 m2 hp2 hr2
    have HI0 : WideI w W2 w1.heap.size (modAt (modl chain sp lv sa)) [] W2 := ⟨⟨_, hl2, World.owns_nil _ _ _ _⟩, by simp, KeepP.refl _, hB2, Nat.le_refl _⟩
    have HOX : OwnFrom W2.heap.size (fun (pre : List (Fin (modl chain sp lv sa).length)) W => (∃ x ∈ pre, ¬ PrimeP (modAt (modl chain sp lv sa) x)) ∧ W.heap[w.heap.size + 1 + 1]? = some (.cells #[.slice none 0 0] 37) ∧ W.heap[w.heap.size + 1 + 1 + 1]? = some (.cells #[.int .i64 2] 34) ∧ Below w.heap.size w W) :=
      (ownFrom_pure _ _).and ((ownFrom_cells _ _ (fun _ => w.heap.size + 1 + 1) (fun _ => #[.slice none 0 0]) 37 (0, 0) (fun _ _ h => h) (fun _ _ h => h)).and ((ownFrom_cells _ _ (fun _ => w.heap.size + 1 + 1 + 1) (fun _ => #[.int .i64 2]) 34 (0, 0) (fun _ _ h => h) (fun _ _ h => h)).and (ownFrom_below (Nat.le_refl _) hB2.size)))
    have HOI := wideI_own w W2 w1.heap.size hlbs hB2.size (modAt (modl chain sp lv sa))
    refine wpIn_range_tmp (n := 5) (by omega) ?hg ?eg (S := fun b => b < W2.heap.size ∧ b ≠ w1.heap.size) (w := W2) (fun _ h => h.1) HST ?hps
      (WideI w W2 w1.heap.size (modAt (modl chain sp lv sa)))
      (fun pre W => (∃ x ∈ pre, ¬ PrimeP (modAt (modl chain sp lv sa) x)) ∧ W.heap[w.heap.size + 1 + 1]? = some (.cells #[.slice none 0 0] 37) ∧ W.heap[w.heap.size + 1 + 1 + 1]? = some (.cells #[.int .i64 2] 34) ∧ Below w.heap.size w W)
      HOI HOX HI0
      (fun x => [(25, .int .i64 (x.val : Int)), (26, .int .u32 (modAt (modl chain sp lv sa) x : Int)), (8, .int .u32 (modAt (modl chain sp lv sa) x : Int))])
      ?assign ?body ?done ?stop
    case hg => rfl
    case eg => exact enters_of Try.func83 (by kernel_rfl) rfl
    case hps => intro x; rfl
    case assign =>
      intro l pre x W K hK
      unfold ModEnc
      gi_wp2
    case stop =>
      intro D pre W hD hpre hI hdf
      obtain ⟨⟨x, hx, hxp⟩, h1, h2, h3⟩ := hI
      obtain rfl : ok = false := by
        cases h : ok
        · rfl
        · exact absurd ((HOK.out.1 h).2 _ (List.getElem_mem x.isLt)) hxp
      have hD1 : w.heap.size + 1 + 1 ≠ D := by have := hB2.size; omega
      have hD2 : w.heap.size + 1 + 1 + 1 ≠ D := by have := hB2.size; omega
      rw [HP.out]
      refine postM_mark (v := .tuple #[.slice none 0 0, .int .i64 2]) hdf ?_ rfl ⟨rfl, ?_⟩
      · have hh1 := heap_putObj_ne (w := W) (Obj.deferred none) hD1
        have hh2 := heap_putObj_ne (w := W) (Obj.deferred none) hD2
        have y1 : (W.putObj D (.deferred none)).cell? ⟨w.heap.size + 1 + 1, 0, none⟩ = some (.slice none 0 0) := by simp [World.cell?, hh1, h1]
        have y2 : (W.putObj D (.deferred none)).cell? ⟨w.heap.size + 1 + 1 + 1, 0, none⟩ = some (.int .i64 2) := by simp [World.cell?, hh2, h2]
        simp [results, Try.results14, go_sem, y1, y2]
      · exact h3.trans (belowK_b (w := w) (Nat.le_refl _) _ D _ _ (by have := hB2.size; omega) hdf rfl rfl)
    case body =>
      intro l pre x W hl hI hN
      simp only [List.foldl_cons, List.foldl_nil, List.setIfInBounds_toArray, List.set_cons_succ, List.set_cons_zero]
      obtain ⟨⟨sv, h1, h2⟩, h3, h4, h5, h6⟩ := hI
      obtain ⟨q, hq⟩ : ∃ q, q = modAt (modl chain sp lv sa) x := ⟨_, rfl⟩
      have hqm := hmax x
      rw [← hq] at hqm
      obtain ⟨pr0, hpr⟩ := em_bool (PrimeP q)
      have HPRM := Lib.hid (Prime_any q hqm pr0 hpr W)
      have HPR := Lib.hid hpr
      have HQ := Lib.hid hq
      have hpl : pre.length ≤ 25 := by omega
      rw [← hq]
      clear hpr hq
      gi_wp2_with fail
      refine ⟨trivial, CallsIn.inRound l ((callsIn_wide.2 HPRM.out).mono ?_)⟩
      rintro e W3 ⟨rfl, hb3⟩
      have hz3 := hb3.size
      cases pr0 with
      | false =>
        have g1 : W3.heap[w.heap.size + 1 + 1]? = some (.cells #[.slice none 0 0] 37) := hold_heap ((h4 _ ⟨by omega, by omega⟩).trans hrc2) hb3
        have g2 : W3.heap[w.heap.size + 1 + 1 + 1]? = some (.cells #[.int .i64 0] 34) := hold_heap ((h4 _ ⟨by omega, by omega⟩).trans hcc2) hb3
        have y1 : W3.cell? ⟨w.heap.size + 1 + 1, 0, none⟩ = some (.slice none 0 0) := by simp [World.cell?, g1]
        have y2 : W3.cell? ⟨w.heap.size + 1 + 1 + 1, 0, none⟩ = some (.int .i64 0) := by simp [World.cell?, g2]
        have y3 : W3.frozen? ⟨w.heap.size + 1 + 1, 0, none⟩ = false := by simp [World.frozen?, g1]
        have y4 : W3.frozen? ⟨w.heap.size + 1 + 1 + 1, 0, none⟩ = false := by simp [World.frozen?, g2]
        gi_wp2
        refine ⟨keepsFrom_setCell (keepsFrom_setCell (keepsFrom_below hb3) _ _) _ _, rfl, ⟨x, by simp, fun h => ?_⟩, ?_, ?_, ?_⟩
        · rw [← HQ.out] at h
          have := HPR.out.2 h
          cases this
        · simp [World.setCell, Array.getElem?_modify, g1]
        · simp [World.setCell, Array.getElem?_modify, g2]
        · exact ((below_via h5 hb3).setCell (by simp; omega) _).setCell (by simp; omega) _
      | true =>
        have g1 : W3.heap[w1.heap.size]? = some (.cells #[sv] 23) := hold_heap h1 hb3
        have y1 : W3.cell? ⟨w1.heap.size, 0, none⟩ = some sv := by simp [World.cell?, g1]
        have hown3 := h2.below hb3
        have hB3 := below_via h5 hb3
        gi_wp2_with (gi_at_builtin; refine wpListIn_append1 W3 rfl (.tmp 30) (.tmp 32) 23 rfl W2.heap.size 22 i0 (.int .u32 0) 4 Try.underlying23 hi0 hiz hiz1 hizb rfl sv pre.length _ rfl hown3 (.int .u32 (q : Int)) W3.heap.size rfl rfl rfl (by unfold maxLen; omega) (by omega) (by omega) ?_; intro v4 W4 hown4 hg4a hg4 hz4; obtain ⟨g4, cap4, rfl⟩ := hown4.succ; have h14 : W4.heap[w1.heap.size]? = some (.cells #[sv] 23) := (hg4.block _ (by omega) (by intro e; have := hown3.lt _ e.symm; omega)).trans g1; have e24 : W4.cell? ⟨w1.heap.size, 0, none⟩ = some sv := (by simp [World.cell?, h14]); have f24 : W4.frozen? ⟨w1.heap.size, 0, none⟩ = false := (by simp only [World.frozen?, h14]; rfl))
        have hold : ∀ b, b < W.heap.size → W3.heap[b]? = W.heap[b]? := fun b hb => hb3.block b hb
        have hk4 : ∀ (g : Nat), g < W3.heap.size → (∀ k, sv.ownBlock = some k → g ≠ k) → W4.heap[g]? = W3.heap[g]? := fun g hg hne => hg4.block g hg (fun e => hne g e.symm rfl)
        have hown5 := hown4.setCell (a := ⟨w1.heap.size, 0, none⟩) (by simp; omega) (.slice (some ⟨g4, 0, none⟩) (pre.length + 1) cap4)
        have hB4 : Below w.heap.size w W4 := hB3.grown hg4 hB3.size (fun k e => by have := hown3.lt _ e; have := hB2.size; omega)
        have hkf4 : KeepsFrom W2.heap.size W W4 := ⟨by omega, fun k o hk1 hk2 ho => by
          rw [hk4 k (by have := lt_of_heap hk2; omega) (fun k' hk' e => by
            subst e
            rcases hown3.2 with ⟨h, _⟩ | ⟨g', cap', cur, fz, h, _, hgg, _⟩
            · rw [h] at hk'; simp [Value.ownBlock] at hk'
            · rw [h] at hk'; simp [Value.ownBlock] at hk'
              subst hk'
              rw [hold _ (lt_of_heap hk2), hk2] at hgg
              injection hgg with hgg
              subst hgg
              cases ho), hold k (lt_of_heap hk2)]; exact hk2⟩
        refine ⟨keepsFrom_setCell hkf4 _ _, ?_, ⟨⟨.slice (some ⟨g4, 0, none⟩) (pre.length + 1) cap4, ?_, ?_⟩, ?_, ?_, hB4.setCell (by simp; omega) _, by simp; omega⟩⟩
        · exact KeepP.setCell (fun b hb => (hk4 b (by have := hb.1; omega) (fun k hk' e => by have := hown3.lt _ hk'; have := hb.1; omega)).trans (hold b (by have := hb.1; omega))) (by simp) _
        · simp [World.setCell, Array.getElem?_modify, h14]
        · rw [HQ.out] at hown5
          simpa [u32V] using hown5
        · intro y hy
          rcases List.mem_append.1 hy with hy | hy
          · exact h3 y hy
          · obtain rfl := List.mem_singleton.1 hy
            rw [← HQ.out]; exact HPR.out.1 (by first | rfl | trivial)
        · exact KeepP.setCell (fun b hb => (hk4 b (by have := hb.1; omega) (fun k hk' e => by have := hown3.lt _ hk'; have := hb.1; omega)).trans ((hold b (by have := hb.1; omega)).trans (h4 b hb))) (by simp) _
    case done =>
      intro D W hD hI hdf
      obtain ⟨⟨sv, h1, h2⟩, h3, h4, h5, h6⟩ := hI
      obtain ⟨ml, hmlE⟩ : ∃ ml, ml = modl chain sp lv sa := ⟨_, rfl⟩
      have hA : AllP (modl chain sp lv sa) := fun q hq => by
        obtain ⟨i, hi, rfl⟩ := List.getElem_of_mem hq
        exact h3 ⟨i, hi⟩ (List.mem_finRange _)
      obtain rfl : ok = true := HOK.out.2 ⟨HCK.out.symm, hA⟩
      have hsys : SysP ml := by
        rw [hmlE]
        have hck := HCK.out.symm
        unfold checkB preB at hck
        simp only [Bool.and_eq_true] at hck
        exact sys_modl hck.1.1 hck.1.2 hA
      have hmap : (List.finRange (modl chain sp lv sa).length).map (modAt (modl chain sp lv sa)) = ml := by
        rw [hmlE]
        have := finRange_map (modl chain sp lv sa) (fun q => q)
        simpa using this
      rw [hmap, List.length_finRange, ← hmlE] at h2
      rw [← hmlE] at i7
      have HELT := Lib.hid i7
      have HSYS := Lib.hid hsys
      obtain ⟨L, hL⟩ : ∃ L, L = ml.length := ⟨_, rfl⟩
      have HL := Lib.hid hL
      have hL25 : L ≤ 25 := by rw [hL, hmlE]; exact hml
      have hL1 : 1 ≤ L := by rw [hL]; exact hsys.1
      have hxl : xs.length = L := by rw [hL]; exact i7.1
      rw [← hL] at h2
      have hNEW := New_any ml sv W h2.reads (fun p hp => by have := (hsys.sep.mem hp).2.2; omega) true ⟨fun _ => hsys, fun _ => rfl⟩
      have HNEW := Lib.hid hNEW
      have HPK : Hid (HPOST = WidesPost true n (wC ml xs) w) := by show _ = _; rw [HP.out, hmlE]; rfl
      have hpW : W.heap[w.heap.size]? = some (.cells #[.int .i64 (n : Int), .int .u32 pr, .int .i64 pw, .slice pa chain.length pc, .int .u32 (sp : Int), .int .i64 wt, .int .u32 er] 25) := (h4 _ ⟨by omega, by omega⟩).trans hp2
      have haW : W.heap[w.heap.size + 1]? = some (.cells #[.int .i64 (lv : Int), .bool sa, .slice aa xs.length ac] 28) := (h4 _ ⟨by omega, by omega⟩).trans ha2
      have hrcW : W.heap[w.heap.size + 1 + 1]? = some (.cells #[.slice none 0 0] 37) := (h4 _ ⟨by omega, by omega⟩).trans hrc2
      have hccW : W.heap[w.heap.size + 1 + 1 + 1]? = some (.cells #[.int .i64 0] 34) := (h4 _ ⟨by omega, by omega⟩).trans hcc2
      have HXW : Hid (∀ (j : Nat) (r : List Nat), xs[j]? = some r → ∃ b off b2 c2, aa = some ⟨b, off, none⟩ ∧ b < W.heap.size ∧ W.cell? ⟨b, off + j, none⟩ = some (.slice b2 r.length c2) ∧ W.reads W.heap.size (.slice b2 r.length c2) (r.map u32V)) := fun j r hj => by
        obtain ⟨b, off, b2, c2, e1, e2, e3, e4⟩ := HSH.out j r hj
        have hkk : ∀ g, g < W0.heap.size → W.heap[g]? = W0.heap[g]? := fun g hg => (h4 g ⟨by omega, by omega⟩).trans (hB20.block g hg)
        exact ⟨b, off, b2, c2, e1, by omega, (World.cell?_of_block (a := ⟨b, off + j, none⟩) (hkk b e2)).trans e3, reads_keep e4 (by omega) hkk⟩
      have y1 : W.cell? ⟨w1.heap.size, 0, none⟩ = some sv := by simp [World.cell?, h1]
      have HPW := Lib.hid hpW
      have HAW := Lib.hid haW
      have HRCW := Lib.hid hrcW
      have HCCW := Lib.hid hccW
      have HLW := Lib.hid h1
      have HDF := Lib.hid hdf
      have H5 := Lib.hid h5
      have hDl := lt_of_heap hdf
      have hs6 := H5.out.size
      have hlW : w1.heap.size < W.heap.size := lt_of_heap h1
      obtain ⟨sa', sc', rfl⟩ := reads_len h2.reads
      rw [List.length_map, ← hL] at y1 HLW HNEW
      clear h1 h2 h3 h4 h5 h6 hdf hpW haW hrcW hccW hNEW hA hsys hmap hL hmlE i6 i7 HST HI0 HOX HOI hmax hSC m0 m1 m2 hp2 ha2 hl2 hrc2 hcc2 hr2 hB20 hB2L hbL hgL hbL0 hpL haL HCH hB2
      gi_wp2_with fail
      refine ⟨trivial, (callsIn_wide.2 HNEW.out).mono ?_⟩
      rintro e w5 ⟨hb5, he5, hs5⟩
      subst he5
      obtain ⟨b, hbd⟩ : ∃ b, b = W.heap.size := ⟨_, rfl⟩
      rw [← hbd] at hs5 ⊢
      have HS5 := Lib.hid hs5
      have HB5 := Lib.hid hb5
      have hz5 := hb5.size
      have c0 : w5.cell? ⟨w.heap.size, 0, none⟩ = some (.int .i64 (n : Int)) := (par_cells (hold_heap HPW.out hb5)).1
      have y2 : w5.cell? ⟨w1.heap.size, 0, none⟩ = some (.slice sa' L sc') := by
        have := hold_heap HLW.out hb5
        simp [World.cell?, this]
      have hmkW := make_wide n (by omega) (wC ml xs)
      have hmkL := make_u32 L (by omega)
      clear y1 hs5 hbd HNEW hb5
      gi_upto_region 13 with (fail)
      obtain ⟨oW, hoW⟩ : ∃ o, o = w5.heap.size := ⟨_, rfl⟩
      have hb6 : Below w5.heap.size w5 (w5.alloc (.cells (wPart (wC ml xs) n 0) 42)) := (Below.refl _ _).alloc (Nat.le_refl _) _
      have hg6 : (w5.alloc (.cells (wPart (wC ml xs) n 0) 42)).heap[oW]? = some (.cells (wPart (wC ml xs) n 0) 42) := by rw [hoW]; exact heap_alloc_new w5 _
      rw [← hoW]
      generalize w5.alloc (.cells (wPart (wC ml xs) n 0) 42) = w6 at hb6 hg6 ⊢
      have hz6 := lt_of_heap hg6
      have y3 : w6.cell? ⟨w1.heap.size, 0, none⟩ = some (.slice sa' L sc') := (hb6.cell (p := ⟨w1.heap.size, 0, none⟩) (by show w1.heap.size < _; omega)).trans y2
      clear c0 y2 hmkW
      gi_upto_region 14 with (fail)
      obtain ⟨cB, hcB⟩ : ∃ o, o = w6.heap.size := ⟨_, rfl⟩
      have hb7 : Below w6.heap.size w6 (w6.alloc (.cells (zrow L) 22)) := (Below.refl _ _).alloc (Nat.le_refl _) _
      have hg7 : (w6.alloc (.cells (zrow L) 22)).heap[cB]? = some (.cells (zrow L) 22) := by rw [hcB]; exact heap_alloc_new w6 _
      rw [← hcB]
      generalize w6.alloc (.cells (zrow L) 22) = w7 at hb7 hg7 ⊢
      rw [nrow_zero] at hg7
      have hoc : oW < cB := by omega
      have HB7 := Lib.hid (below_via hb6 hb7)
      have HO7 := Lib.hid (hold_heap hg6 hb7)
      have HC7 := Lib.hid hg7
      have hoW5 : w5.heap.size ≤ oW := by omega
      clear y3 hmkL hb6 hg6 hb7 hg7 hoW hcB hz6
      gi_wp2_with fail
      gi_loopw [49] (fun iv wr => ∃ j : Nat, j ≤ n ∧ iv = .int .i64 (j : Int) ∧ Hid (Below w5.heap.size w5 wr) ∧ Hid (wr.heap[oW]? = some (.cells (wPart (wC ml xs) n j) 42)) ∧ Hid (∃ f : Nat → Nat, wr.heap[cB]? = some (.cells (nrow f L) 22))) (fun iv _ => n - (intOf iv).toNat)
      case atStart => exact ⟨0, Nat.zero_le _, rfl, HB7.out, HO7.out, ⟨_, HC7.out⟩⟩
      case round =>
        obtain ⟨j, hj, rfl, HBr, HOr, HCr⟩ := hrel
        obtain ⟨wo, rfl⟩ : ∃ x, x = wr := ⟨_, rfl⟩
        by_cases hlt : j < n
        · have hBo := below_via HB5.out HBr.out
          obtain ⟨-, -, k2, -, -, -⟩ := elem_cells (hold_heap HAW.out hBo)
          have j1 : (j : Int) < (n : Int) := by omega
          have j2 : (0 : Int) ≤ (j : Int) := by omega
          gi_wp2_with fail
          gi_loopw [55] (fun iv wx => ∃ i : Nat, i ≤ L ∧ iv = .int .i64 (i : Int) ∧ Hid (Below w5.heap.size w5 wx) ∧ Hid (wx.heap[oW]? = some (.cells (wPart (wC ml xs) n j) 42)) ∧ Hid (∃ f : Nat → Nat, wx.heap[cB]? = some (.cells (nrow f L) 22) ∧ ∀ i', i' < i → f i' = (xs.getD i' []).getD j 0)) (fun iv _ => L - (intOf iv).toNat)
          case atStart =>
            obtain ⟨f, hf⟩ := HCr.out
            exact ⟨0, Nat.zero_le _, rfl, HBr.out, HOr.out, ⟨f, hf, fun i' h => by omega⟩⟩
          case round =>
            obtain ⟨i, hi, rfl, HBi, HOi, HCi⟩ := hrel
            obtain ⟨wi, rfl⟩ : ∃ x, x = wr := ⟨_, rfl⟩
            by_cases hil : i < L
            · obtain ⟨rr, hrr⟩ : ∃ r, xs[i]? = some r := ⟨xs[i]'(by omega), List.getElem?_eq_getElem _⟩
              obtain ⟨hrl, -⟩ := HELT.out.2 i rr hrr
              obtain ⟨rb, ro, b2, c2, rfl, hrb, hcl, hrd⟩ := HXW.out i rr hrr
              obtain ⟨v, hv⟩ : ∃ v, rr[j]? = some v := ⟨rr[j]'(by omega), List.getElem?_eq_getElem _⟩
              rw [hrl] at hcl hrd
              obtain ⟨xa, xc, he, x1, x2, x3⟩ := reads_u32 hrd
              injection he with he1 he2 he3
              subst he1 he3
              obtain ⟨xb, xo, rfl, hxb, hxc⟩ := x3 j v hv
              rw [hrl] at x1
              have hBi := below_via HB5.out HBi.out
              have d0 : wi.cell? ⟨rb, ro + i, none⟩ = some (.slice (some ⟨xb, xo, none⟩) n c2) := (hBi.cell (p := ⟨rb, ro + i, none⟩) hrb).trans hcl
              have d1 : wi.cell? ⟨xb, xo + j, none⟩ = some (.int .u32 (v : Int)) := (hBi.cell (p := ⟨xb, xo + j, none⟩) hxb).trans hxc
              obtain ⟨f, hf, hfall⟩ := HCi.out
              have d2 : wi.cell? ⟨cB, i, none⟩ = some (.int .u32 (f i : Int)) := by rw [cell_of_row wi cB i _ _ (0, 0) hf]; exact nrow_get _ _ _ hil
              have d3 : wi.frozen? ⟨cB, i, none⟩ = false := by simp [World.frozen?, hf]
              have HC2 : Hid (∃ f : Nat → Nat, (wi.setCell ⟨cB, i, none⟩ (.int .u32 (v : Int))).heap[cB]? = some (.cells (nrow f L) 22) ∧ ∀ i', i' < i + 1 → f i' = (xs.getD i' []).getD j 0) := by
                refine ⟨fun c => if c = i then v else f c, ?_, fun i' h => ?_⟩
                · rw [← nrow_set]; simp [World.setCell, Array.getElem?_modify, hf]
                · by_cases e : i' = i
                  · subst e
                    have g1 : xs.getD i' [] = rr := by rw [List.getD_eq_getElem?_getD, hrr]; rfl
                    have g2 : rr.getD j 0 = v := by rw [List.getD_eq_getElem?_getD, hv]; rfl
                    simp only [if_true, g1, g2]
                  · simp only [e, if_false]; exact hfall i' (by omega)
              have HB2 : Hid (Below w5.heap.size w5 (wi.setCell ⟨cB, i, none⟩ (.int .u32 (v : Int)))) := HBi.out.setCell (by simp; omega) _
              have HO2 : Hid ((wi.setCell ⟨cB, i, none⟩ (.int .u32 (v : Int))).heap[oW]? = some (.cells (wPart (wC ml xs) n j) 42)) := (Below.heap_setCell _ _ _ _ (by simp; omega)).trans HOi.out
              have i1' : (i : Int) < (L : Int) := by omega
              have i2' : (0 : Int) ≤ (i : Int) := by omega
              clear hrr hrl hcl hrd hv x1 x3 hxc hf hfall HCi
              gi_upto_region 21 with (fail)
              generalize wi.setCell ⟨cB, i, none⟩ (.int .u32 (v : Int)) = wn at HC2 HB2 HO2 ⊢
              clear d0 d1 d2 d3
              gi_wp2_with fail
              go_roundw
              case rel => exact ⟨i + 1, by omega, by go_num, HB2.out, HO2.out, HC2.out⟩
              case measure => simp [intOf]; omega
            · obtain rfl : i = L := by omega
              obtain ⟨f, hf, hfall⟩ := HCi.out
              have hcol : nrow f i = ((colL xs j).map u32V).toArray := by
                unfold nrow colL
                congr 1
                apply List.ext_getElem
                · simp [hxl]
                · intro k h1 h2
                  have hk : k < i := by simpa using h1
                  have hkx : k < xs.length := by omega
                  have hg : xs.getD k [] = xs[k] := by rw [List.getD_eq_getElem?_getD, List.getElem?_eq_getElem hkx]; rfl
                  simp only [List.getElem_map, List.getElem_range]
                  rw [hfall k hk, hg]
                  rfl
              have HCN : Hid (∃ f : Nat → Nat, wi.heap[cB]? = some (.cells (nrow f i) 22)) := ⟨f, hf⟩
              rw [hcol] at hf
              have hcll : (colL xs j).length = i := by unfold colL; rw [List.length_map, hxl]
              have hrdc : wi.reads wi.heap.size (.slice (some ⟨cB, 0, none⟩) i i) ((colL xs j).map u32V) := by
                have := reads_block hf (lt_of_heap hf) i (by simp [hcll]) (by unfold maxLen; omega)
                simpa [hcll] using this
              have hJ := Join_any b ml (colL xs j) _ wi (HS5.out.below HBi.out) HSYS.out hrdc true ⟨fun _ => col_row HELT.out hlt, fun _ => rfl⟩
              rw [if_pos rfl, if_pos rfl] at hJ
              unfold FormE at hJ
              obtain ⟨jb, hjb⟩ : ∃ z, z = zN (wC ml xs j) := ⟨_, rfl⟩
              obtain ⟨jt, hjt⟩ : ∃ z, z = zT (wC ml xs j) := ⟨_, rfl⟩
              have HJ : Hid (Calls Try.prog 51 #[.pointer (some ⟨b, 0, none⟩), .slice (some ⟨cB, 0, none⟩) i i] wi fun e w' => e = .returned (.tuple #[.agg #[.bool jb, .string jt], .int .i64 0]) ∧ Below wi.heap.size wi w') := by rw [hjb, hjt]; exact hJ
              have HJB := Lib.hid hjb
              have HJT := Lib.hid hjt
              have HF := Lib.hid hf
              clear hf hfall hcol hcll hrdc hJ hjb hjt HCi
              gi_wp2_with fail
              refine ⟨trivial, (callsIn_wide.2 HJ.out).mono ?_⟩
              rintro e w8 ⟨rfl, hb8⟩
              have HB8 := Lib.hid (below_via HBi.out hb8)
              have hO8 := hold_heap HOi.out hb8
              have HC8 : Hid (∃ f : Nat → Nat, w8.heap[cB]? = some (.cells (nrow f i) 22)) := by
                obtain ⟨f, hf⟩ := HCN.out
                exact ⟨f, hold_heap hf hb8⟩
              have d0 : ∃ u, w8.cell? ⟨oW, j * 2, none⟩ = some u := ⟨_, by rw [cell_of_row w8 oW (j * 2) _ _ (0, 0) hO8]; exact wPart_get (by omega)⟩
              obtain ⟨u0, d0⟩ := d0
              have d1 : ∃ u, w8.cell? ⟨oW, j * 2 + 1, none⟩ = some u := ⟨_, by rw [cell_of_row w8 oW (j * 2 + 1) _ _ (0, 0) hO8]; exact wPart_get (by omega)⟩
              obtain ⟨u1, d1⟩ := d1
              have d2 : ∀ o, w8.frozen? ⟨oW, o, none⟩ = false := fun o => by simp [World.frozen?, hO8]
              have d3 := d2 (j * 2)
              have d4 := d2 (j * 2 + 1)
              have HO8 := Lib.hid hO8
              clear hb8 hO8 d2
              gi_upto_region 23 with (fail)
              have HB9 : Hid (Below w5.heap.size w5 ((w8.setCell ⟨oW, j * 2, none⟩ (.bool jb)).setCell ⟨oW, j * 2 + 1, none⟩ (.string jt))) := (HB8.out.setCell (by simp; omega) _).setCell (by simp; omega) _
              have HO9 : Hid (((w8.setCell ⟨oW, j * 2, none⟩ (.bool jb)).setCell ⟨oW, j * 2 + 1, none⟩ (.string jt)).heap[oW]? = some (.cells (wPart (wC ml xs) n (j + 1)) 42)) := by
                show _ = _
                rw [← wPart_set hlt, ← HJB.out, ← HJT.out, Nat.mul_comm 2 j]
                simp [World.setCell, Array.getElem?_modify, HO8.out]
              have HC9 : Hid (∃ f : Nat → Nat, ((w8.setCell ⟨oW, j * 2, none⟩ (.bool jb)).setCell ⟨oW, j * 2 + 1, none⟩ (.string jt)).heap[cB]? = some (.cells (nrow f i) 22)) := by
                obtain ⟨f, hf⟩ := HC8.out
                refine ⟨f, ?_⟩
                rw [Below.heap_setCell _ _ _ _ (by simp; omega), Below.heap_setCell _ _ _ _ (by simp; omega)]
                exact hf
              generalize (w8.setCell ⟨oW, j * 2, none⟩ (.bool jb)).setCell ⟨oW, j * 2 + 1, none⟩ (.string jt) = w9 at HB9 HO9 HC9 ⊢
              clear d0 d1 d3 d4
              gi_wp2_with fail
              go_roundw
              case rel => exact ⟨j + 1, by omega, by go_num, HB9.out, HO9.out, HC9.out⟩
              case measure => simp [intOf]; omega
        · obtain rfl : j = n := by omega
          have hBo := below_via HB5.out HBr.out
          have g1 := hold_heap HRCW.out hBo
          have g2 := hold_heap HCCW.out hBo
          have hdf := HDF.out
          have hdf2 : wo.heap[D]? = some (.deferred (some [])) := hold_heap hdf hBo
          have r0 : wo.cell? ⟨w.heap.size + 1 + 1, 0, none⟩ = some (.slice none 0 0) := by simp [World.cell?, g1]
          have r1 : wo.frozen? ⟨w.heap.size + 1 + 1, 0, none⟩ = false := by simp [World.frozen?, g1]
          have s0 : wo.cell? ⟨w.heap.size + 1 + 1 + 1, 0, none⟩ = some (.int .i64 0) := by simp [World.cell?, g2]
          have s1 : wo.frozen? ⟨w.heap.size + 1 + 1 + 1, 0, none⟩ = false := by simp [World.frozen?, g2]
          have hDs : w.heap.size + 1 + 1 + 1 < D := by omega
          have hoW2 : w.heap.size ≤ oW := by have := H5.out.size; have := HB5.out.size; omega
          have hlo := lt_of_heap HOr.out
          gi_wp2
          have hDo : D ≠ oW := by omega
          obtain ⟨wz, hwz⟩ : ∃ W, W = (wo.setCell ⟨w.heap.size + 1 + 1, 0, none⟩ (.slice (some ⟨oW, 0, none⟩) j j)).setCell ⟨w.heap.size + 1 + 1 + 1, 0, none⟩ (.int .i64 0) := ⟨_, rfl⟩
          have hBz : Below w.heap.size w wz := by rw [hwz]; exact (((below_via H5.out hBo)).setCell (by simp; omega) _).setCell (by simp; omega) _
          have hz1 : wz.heap[w.heap.size + 1 + 1]? = some (.cells #[.slice (some ⟨oW, 0, none⟩) j j] 37) := by
            rw [hwz, Below.heap_setCell _ _ _ _ (by simp)]; simp [World.setCell, Array.getElem?_modify, g1]
          have hz2' : wz.heap[w.heap.size + 1 + 1 + 1]? = some (.cells #[.int .i64 0] 34) := by
            rw [hwz]; simp [World.setCell, Array.getElem?_modify, g2]
          have hz3 : wz.heap[oW]? = some (.cells (wPart (wC ml xs) j j) 42) := by
            rw [hwz, Below.heap_setCell _ _ _ _ (by simp; omega), Below.heap_setCell _ _ _ _ (by simp; omega)]; exact HOr.out
          have hz4 : wz.heap[D]? = some (.deferred (some [])) := by
            rw [hwz, Below.heap_setCell _ _ _ _ (by simp; omega), Below.heap_setCell _ _ _ _ (by simp; omega)]; exact hdf2
          rw [← hwz, HPK.out]
          refine postM_mark (v := .tuple #[.slice (some ⟨oW, 0, none⟩) j j, .int .i64 0]) hz4 ?_ rfl ⟨?_, ?_⟩
          · have hh1 := heap_putObj_ne (w := wz) (Obj.deferred none) (show w.heap.size + 1 + 1 ≠ D by omega)
            have hh2 := heap_putObj_ne (w := wz) (Obj.deferred none) (show w.heap.size + 1 + 1 + 1 ≠ D by omega)
            have y1 : (wz.putObj D (.deferred none)).cell? ⟨w.heap.size + 1 + 1, 0, none⟩ = some (.slice (some ⟨oW, 0, none⟩) j j) := by simp [World.cell?, hh1, hz1]
            have y2 : (wz.putObj D (.deferred none)).cell? ⟨w.heap.size + 1 + 1 + 1, 0, none⟩ = some (.int .i64 0) := by simp [World.cell?, hh2, hz2']
            simp [results, Try.results14, go_sem, y1, y2]
          · rw [if_pos rfl]
            exact ⟨oW, rfl, hoW2, (heap_putObj_ne (w := wz) (Obj.deferred none) (Ne.symm hDo)).trans hz3⟩
          · exact hBz.trans (belowK_b (w := w) (Nat.le_refl _) _ D _ _ (by omega) hz4 rfl rfl)
end Go.Proofs.Ytkjlfjnncdkmlaa.G

/- Walks: the norm of an element (the program's). -/
namespace Go.Proofs.Ytkjlfjnncdkmlaa.G
set_option linter.all false
open Go.RowKit Go.Shelf Go.BigFrame Go.WideNum
attribute [local go_sem] Oper.semAt_some
theorem abs_form {x : Int} : zT x = zT ((x.natAbs : Nat) : Int) := by unfold zT; rw [Int.natAbs_natCast]
theorem zN_nat (n : Nat) : zN (n : Int) = false := decide_eq_false (by omega)
theorem Max_z (a : Nat) (x : Int) (ha : InR (a : Int)) (hx : InR x) (w : World) :
    Calls Try.prog 74 #[.agg #[.bool false, .string (zT (a : Int))], .agg #[.bool false, .string (zT x)]] w fun e w' => e = .returned (.tuple #[.agg #[.bool false, .string (zT ((max a x.natAbs : Nat) : Int))], .int .i64 0]) ∧ Below w.heap.size w w' := by
  have hx' : InR ((x.natAbs : Nat) : Int) := by unfold InR at *; rw [Int.natAbs_natCast]; exact hx
  rw [abs_form (x := x)]
  have h := Max_any false (zT (a : Int)) false (zT ((x.natAbs : Nat) : Int)) (z_size ha) (z_size hx') w
  have e : maxF false (zT (a : Int)) false (zT ((x.natAbs : Nat) : Int)) = (false, zT ((max a x.natAbs : Nat) : Int), 0) := by
    have v1 := z_valid ha
    have v2 := z_valid hx'
    rw [zN_nat] at v1 v2
    unfold maxF cmpF
    rw [v1.1, v2.1, v1.2, v2.2]
    unfold cmpZ
    by_cases h1 : (a : Int) < ((x.natAbs : Nat) : Int)
    · rw [Nat.max_eq_right (by omega)]; simp [h1]
    · rw [Nat.max_eq_left (by omega)]
      by_cases h2 : ((x.natAbs : Nat) : Int) < (a : Int)
      · simp [h1, h2]
      · simp [h1, h2]
  rw [e] at h
  exact h
theorem inR_maxN {F : Nat → Int} : ∀ {n : Nat}, (∀ i, i < n → InR (F i)) → InR ((maxN F n : Nat) : Int)
  | 0, _ => by unfold InR; show (((0 : Nat) : Int)).natAbs < lim; rw [lim_words]; decide
  | n + 1, h => by
    have h1 := inR_maxN (n := n) fun i hi => h i (by omega)
    have h2 := h n (by omega)
    unfold InR at *
    rw [Int.natAbs_natCast] at *
    show max (maxN F n) (F n).natAbs < lim
    omega
/-- What Norm answers. -/
def NormPost (ok : Bool) (n : Nat) (F : Nat → Int) (w : World) (e : Ending) (w' : World) : Prop :=
  (if ok then e = .returned (.tuple #[.agg #[.bool false, .string (zT ((maxN F n : Nat) : Int))], .int .i64 0])
    else e = .returned (.tuple #[.agg #[.bool false, .string ⟨#[]⟩], .int .i64 2])) ∧ Below w.heap.size w w'
set_option maxRecDepth 100000 in
set_option maxHeartbeats 16000000 in
theorem Norm_any (N pr pw wt er : Int) (cv : Value) (chain : List Nat) (sp : Nat) (la : Int) (sa : Bool) (av : Value) (xs : List (List Nat)) (w : World) (hr : w.reads w.heap.size cv (chain.map u32V)) (hrow : w.rows u32V w.heap.size av xs) (ok : Bool) (hok : ok = true ↔ checkB N chain sp la sa xs = true ∧ AllP (modl chain sp la.toNat sa)) (n : Nat) (hn : n = N.toNat) (F : Nat → Int) (hF : F = wC (modl chain sp la.toNat sa) xs) :
    Calls Try.prog 39 #[.agg #[.int .i64 N, .int .u32 pr, .int .i64 pw, cv, .int .u32 (sp : Int), .int .i64 wt, .int .u32 er], .agg #[.int .i64 la, .bool sa, av]] w (NormPost ok n F w) := by
  obtain ⟨W0, hW0⟩ : ∃ W0, W0 = (((w.alloc (.cells #[.int .i64 N, .int .u32 pr, .int .i64 pw, cv, .int .u32 (sp : Int), .int .i64 wt, .int .u32 er] 25)).alloc (.cells #[.int .i64 la, .bool sa, av] 28)).alloc (.cells #[.bool false, .string ⟨#[]⟩] 42)) := ⟨_, rfl⟩
  have hB0 : Below w.heap.size w W0 := by rw [hW0]; exact (((Below.refl _ w).alloc (Nat.le_refl _) _).alloc (by simp) _).alloc (by first | (simp; done) | (simp; omega)) _
  have hp0 : W0.heap[w.heap.size]? = some (.cells #[.int .i64 N, .int .u32 pr, .int .i64 pw, cv, .int .u32 (sp : Int), .int .i64 wt, .int .u32 er] 25) := by
    rw [hW0, Below.heap_alloc _ _ _ (by first | (simp; done) | (simp; omega)), Below.heap_alloc _ _ _ (by simp)]; exact alloc_last _ _ rfl
  have ha0 : W0.heap[w.heap.size + 1]? = some (.cells #[.int .i64 la, .bool sa, av] 28) := by
    rw [hW0, Below.heap_alloc _ _ _ (by simp)]; exact alloc_last _ _ (by simp)
  have ho0 : W0.heap[w.heap.size + 1 + 1]? = some (.cells #[.bool false, .string ⟨#[]⟩] 42) := by
    rw [hW0]; exact alloc_last _ _ (by simp)
  have hz0 := lt_of_heap ho0
  have hr0 := (hr.below hB0).mono hB0.size
  have hrow0 := (hrow.below hB0).mono hB0.size
  have HCW := Lib.hid (Wides_any N pr pw wt er cv chain sp la sa av xs W0 hr0 hrow0 ok hok)
  have hin : ok = true → (∀ i, i < n → InR (F i)) ∧ n ≤ 32 := by
    intro h
    obtain ⟨hc, hA⟩ := hok.1 h
    obtain ⟨n', lv, e1, e2, -, i2, i3, i4, i5, i6, i7⟩ := checkB_elt hc
    subst e1 e2
    rw [Int.toNat_natCast] at hn hF hA
    subst hn
    unfold checkB preB at hc
    simp only [Bool.and_eq_true] at hc
    have hs := sys_modl hc.1.1 hc.1.2 hA
    have hml := modl_length chain sp lv sa i4
    refine ⟨fun i _ => ?_, i2⟩
    rw [hF]
    exact inR_joinZ hs.sep (by rw [hml]; cases sa <;> simp <;> omega)
  unfold WidesPost at HCW
  rw [← hn, ← hF] at HCW
  have HIN := Lib.hid hin
  obtain ⟨aa, ac, rfl, hac, ham, hsh⟩ := hrow0.shape
  obtain ⟨pa, pc, rfl, -⟩ := reads_u32 hr0
  have HO0 := Lib.hid ho0
  have HW0 := Lib.hid hW0
  have HB0 := Lib.hid hB0
  obtain ⟨HPOST, hpost⟩ : ∃ R, R = NormPost ok n F w := ⟨_, rfl⟩
  rw [← hpost]
  have HP := Lib.hid hpost
  obtain ⟨c0, c1, c2, c3, c4, c5, c6⟩ := par_cells hp0
  obtain ⟨k0, k1, k2, -, -, -⟩ := elem_cells ha0
  clear hr hrow hr0 hrow0 hsh hok hW0 hB0 hpost hin hn hF hp0 ha0 ho0
  go_enter Try.func39, Try.ntmps39
  go_upto_region 1 with (fail)
  rw [← HW0.out]
  cases ok with
  | false =>
    go_wp2_with fail
    (with_reducible refine HCW.out.mono ?_)
    rintro e w1 ⟨he, hb1⟩
    rw [if_neg (by decide)] at he
    subst he
    have g1 := wide_hold (w := w) HO0.out hb1
    obtain ⟨d0, d1, f0⟩ := wide_cells g1
    have hb9 := below_set2 (p := w.heap.size + 1 + 1) (below_via HB0.out hb1) (by omega) false ⟨#[]⟩
    have m2 := wide_set g1 false ⟨#[]⟩
    clear g1
    go_wp2
    clear d0 d1 f0
    obtain ⟨d20, d21, -⟩ := wide_cells m2
    clear m2
    generalize (w1.setCell ⟨w.heap.size + 1 + 1, 0, none⟩ (.bool false)).setCell ⟨w.heap.size + 1 + 1, 1, none⟩ (.string ⟨#[]⟩) = W9 at d20 d21 hb9 ⊢
    rw [HP.out]
    exact bodyPost_ret (v := .tuple #[.agg #[.bool false, .string ⟨#[]⟩], .int .i64 2]) (by simp [results, Try.results39, go_sem, d20, d21]) rfl ⟨by rw [if_neg (by decide)], hb9⟩
  | true =>
    obtain ⟨hFI, hn32⟩ := HIN.out rfl
    have HFI := Lib.hid hFI
    clear HIN hFI
    go_wp2_with fail
    (with_reducible refine HCW.out.mono ?_)
    rintro e w1 ⟨he, hb1⟩
    rw [if_pos trivial] at he
    obtain ⟨g, rfl, hg0, hg1⟩ := he
    have HO1 := Lib.hid (wide_hold (w := w) HO0.out hb1)
    have HG1 := Lib.hid hg1
    have HB1 := Lib.hid (below_via HB0.out hb1)
    have hgl := lt_of_heap hg1
    have hol := lt_of_heap HO1.out
    clear hb1 hg1 HO0 HCW HB0 HW0 c0 c1 c2 c3 c4 c5 c6 k0 k1 k2
    go_upto_region 5 with (fail)
    obtain ⟨o, ho⟩ : ∃ x, x = w1.heap.size := ⟨_, rfl⟩
    have hb2 : Below w1.heap.size w1 (w1.alloc (.cells #[.bool false, .string ⟨#[]⟩] 42)) := (Below.refl _ _).alloc (Nat.le_refl _) _
    have ho2 : (w1.alloc (.cells #[.bool false, .string ⟨#[]⟩] 42)).heap[o]? = some (.cells #[.bool false, .string ⟨#[]⟩] 42) := by rw [ho]; exact heap_alloc_new w1 _
    rw [← ho]
    generalize w1.alloc (.cells #[.bool false, .string ⟨#[]⟩] 42) = w2 at hb2 ho2 ⊢
    have hz2 := lt_of_heap ho2
    have HB2 := Lib.hid (below_via HB1.out hb2)
    have HG2 := Lib.hid (hold_heap HG1.out hb2)
    have HO2 := Lib.hid (wide_hold (w := w1) HO1.out hb2)
    have HQ2 := Lib.hid ho2
    have hgo : g < o := by omega
    have hoo : w.heap.size + 1 + 1 < o := by omega
    clear hb2 ho2 ho HG1 HO1 HB1 hgl hol hg0
    go_wp2_with fail
    go_loopw [23] (fun iv wr => ∃ j : Nat, j ≤ n ∧ iv = .int .i64 (j : Int) ∧ Hid (Below w.heap.size w wr) ∧ Hid (wr.heap[g]? = some (.cells (wArr F n) 42)) ∧ Hid (wr.heap[w.heap.size + 1 + 1]? = some (.cells #[.bool false, .string ⟨#[]⟩] 42)) ∧ Hid (wr.heap[o]? = some (.cells #[.bool false, .string (zT ((maxN F j : Nat) : Int))] 42))) (fun iv _ => n - (intOf iv).toNat)
    case atStart => exact ⟨0, Nat.zero_le _, rfl, HB2.out, HG2.out, HO2.out, HQ2.out⟩
    case round =>
      obtain ⟨j, hj, rfl, HBr, HGr, HOr, HQr⟩ := hrel
      obtain ⟨wo, rfl⟩ : ∃ x, x = wr := ⟨_, rfl⟩
      by_cases hlt : j < n
      · have e0 : wo.cell? ⟨g, j * 2, none⟩ = some (.bool (zN (F j))) := by
          rw [cell_of_row wo g (j * 2) _ _ (0, 0) HGr.out]
          unfold wArr
          rw [wPart_get (by omega), if_pos (by omega), if_pos (by omega), show j * 2 / 2 = j by omega]
        have e1 : wo.cell? ⟨g, j * 2 + 1, none⟩ = some (.string (zT (F j))) := by
          rw [cell_of_row wo g (j * 2 + 1) _ _ (0, 0) HGr.out]
          unfold wArr
          rw [wPart_get (by omega), if_pos (by omega), if_neg (by omega), show (j * 2 + 1) / 2 = j by omega]
        have j1 : (j : Int) < (n : Int) := by omega
        have j2 : (0 : Int) ≤ (j : Int) := by omega
        go_upto_region 8 with (fail)
        clear e0 e1
        obtain ⟨x, hx⟩ : ∃ x, x = wo.heap.size := ⟨_, rfl⟩
        have hox : o < x := by rw [hx]; exact lt_of_heap HQr.out
        have hb3 : Below wo.heap.size wo (wo.alloc (.cells #[.bool (zN (F j)), .string (zT (F j))] 42)) := (Below.refl _ _).alloc (Nat.le_refl _) _
        have hx3 : (wo.alloc (.cells #[.bool (zN (F j)), .string (zT (F j))] 42)).heap[x]? = some (.cells #[.bool (zN (F j)), .string (zT (F j))] 42) := by rw [hx]; exact heap_alloc_new wo _
        rw [← hx]
        generalize wo.alloc (.cells #[.bool (zN (F j)), .string (zT (F j))] 42) = w3 at hb3 hx3 ⊢
        have HB3 := Lib.hid (below_via HBr.out hb3)
        have HG3 := Lib.hid (hold_heap HGr.out hb3)
        have HO3 := Lib.hid (wide_hold (w := w) HOr.out hb3)
        have HQ3 := Lib.hid (wide_hold (w := w) HQr.out hb3)
        have HX3 := Lib.hid hx3
        obtain ⟨d0, d1, f0⟩ := wide_cells hx3
        clear hb3 hx3 hx
        go_upto_region 9 with (fail)
        have hB4 : Below w.heap.size w (w3.setCell ⟨x, 0, none⟩ (.bool false)) := HB3.out.setCell (by show w.heap.size ≤ x; omega) _
        have hG4 : (w3.setCell ⟨x, 0, none⟩ (.bool false)).heap[g]? = some (.cells (wArr F n) 42) := (Below.heap_setCell _ _ _ _ (by simp; omega)).trans HG3.out
        have hO4 : (w3.setCell ⟨x, 0, none⟩ (.bool false)).heap[w.heap.size + 1 + 1]? = some (.cells #[.bool false, .string ⟨#[]⟩] 42) := (Below.heap_setCell _ _ _ _ (by simp; omega)).trans HO3.out
        have hQ4 : (w3.setCell ⟨x, 0, none⟩ (.bool false)).heap[o]? = some (.cells #[.bool false, .string (zT ((maxN F j : Nat) : Int))] 42) := (Below.heap_setCell _ _ _ _ (by simp; omega)).trans HQ3.out
        have hX4 : (w3.setCell ⟨x, 0, none⟩ (.bool false)).heap[x]? = some (.cells #[.bool false, .string (zT (F j))] 42) := by simp [World.setCell, Array.getElem?_modify, HX3.out]
        generalize w3.setCell ⟨x, 0, none⟩ (.bool false) = w4 at hB4 hG4 hO4 hQ4 hX4 ⊢
        have HB4 := Lib.hid hB4
        have HG4 := Lib.hid hG4
        have HO4 := Lib.hid hO4
        have HQ4 := Lib.hid hQ4
        clear d0 d1 f0
        obtain ⟨d0, d1, -⟩ := wide_cells hX4
        obtain ⟨q0, q1, f0⟩ := wide_cells hQ4
        have HM := Lib.hid (Max_z (maxN F j) (F j) (inR_maxN fun i hi => HFI.out i (by omega)) (HFI.out j hlt) w4)
        clear hB4 hG4 hO4 hQ4 hX4
        go_wp2_with fail
        (with_reducible refine HM.out.mono ?_)
        rintro e w5 ⟨rfl, hb5⟩
        have hQ5 := wide_hold (w := w) HQ4.out hb5
        have hG5 := hold_heap HG4.out hb5
        have hO5 := wide_hold (w := w) HO4.out hb5
        have hB5 := below_via HB4.out hb5
        obtain ⟨y, hy⟩ : ∃ y, y = zT ((max (maxN F j) (F j).natAbs : Nat) : Int) := ⟨_, rfl⟩
        rw [← hy]
        have hy2 : y = zT ((maxN F (j + 1) : Nat) : Int) := hy
        have HY := Lib.hid hy2
        have HQ6 := Lib.hid (wide_set hQ5 false y)
        have HB6 := Lib.hid (below_set2 (p := o) hB5 (by omega) false y)
        have HG6 : Hid ((((w5.setCell ⟨o, 0, none⟩ (.bool false)).setCell ⟨o, 1, none⟩ (.string y))).heap[g]? = some (.cells (wArr F n) 42)) := ((Below.heap_setCell _ _ _ _ (by simp; omega)).trans (Below.heap_setCell _ _ _ _ (by simp; omega))).trans hG5
        have HO6 : Hid ((((w5.setCell ⟨o, 0, none⟩ (.bool false)).setCell ⟨o, 1, none⟩ (.string y))).heap[w.heap.size + 1 + 1]? = some (.cells #[.bool false, .string ⟨#[]⟩] 42)) := ((Below.heap_setCell _ _ _ _ (by simp; omega)).trans (Below.heap_setCell _ _ _ _ (by simp; omega))).trans hO5
        clear q0 q1 f0 d0 d1 hy hy2
        obtain ⟨q0, q1, f0⟩ := wide_cells hQ5
        clear hQ5 hG5 hO5 hB5 hb5
        go_wp2_with fail
        go_roundw
        case rel => exact ⟨j + 1, by omega, by go_num, HB6.out, HG6.out, HO6.out, by rw [← HY.out]; exact HQ6.out⟩
        case measure => simp [intOf]; omega
      · obtain rfl : j = n := by omega
        obtain ⟨q0, q1, -⟩ := wide_cells HQr.out
        obtain ⟨d0, d1, f0⟩ := wide_cells HOr.out
        obtain ⟨y, hy⟩ : ∃ y, y = zT ((maxN F j : Nat) : Int) := ⟨_, rfl⟩
        rw [← hy] at q1
        have HY := Lib.hid hy
        clear hy
        have m2 := wide_set HOr.out false y
        have hb9 := below_set2 (p := w.heap.size + 1 + 1) HBr.out (by omega) false y
        go_wp2
        clear d0 d1 f0 q0 q1
        obtain ⟨d20, d21, -⟩ := wide_cells m2
        clear m2
        generalize (wo.setCell ⟨w.heap.size + 1 + 1, 0, none⟩ (.bool false)).setCell ⟨w.heap.size + 1 + 1, 1, none⟩ (.string y) = W9 at d20 d21 hb9 ⊢
        rw [HP.out]
        exact bodyPost_ret (v := .tuple #[.agg #[.bool false, .string y], .int .i64 0]) (by simp [results, Try.results39, go_sem, d20, d21]) rfl ⟨by rw [if_pos rfl, HY.out], hb9⟩
end Go.Proofs.Ytkjlfjnncdkmlaa.G

/- Walks: the fixed case that each law of the ring ends in. -/
namespace Go.Proofs.Ytkjlfjnncdkmlaa.G
set_option linter.all false
open Go.RowKit Go.Shelf Go.BigFrame Go.WideNum PN
attribute [local go_sem] Oper.semAt_some
/-- Rows that lie in blocks of their own. -/
theorem rows_of {α : Type} {enc : α → Value} {w : World} {B b : Nat} {rs : List (List α)} {bs : List Nat} {t : TypeId} {fz : Nat × Nat} (hl : bs.length = rs.length) (hn : rs.length ≤ maxLen)
    (hob : w.heap[b]? = some (.cells (List.zipWith (fun b r => Value.slice (some ⟨b, 0, none⟩) r.length r.length) bs rs).toArray t fz)) (hB : b < B)
    (hin : ∀ (i : Nat) (x : Nat) (r : List α), bs[i]? = some x → rs[i]? = some r → x < B ∧ r.length ≤ maxLen ∧ ∃ t fz, w.heap[x]? = some (.cells (r.map enc).toArray t fz)) :
    w.rows enc B (.slice (some ⟨b, 0, none⟩) rs.length rs.length) rs := by
  refine ⟨List.zipWith (fun b r => Value.slice (some ⟨b, 0, none⟩) r.length r.length) bs rs, by simp [hl], ?_, fun i r hr => ?_⟩
  · have h := reads_block hob hB rs.length (by simp [hl]) hn
    have hz : (List.zipWith (fun b (r : List α) => Value.slice (some ⟨b, 0, none⟩) r.length r.length) bs rs).length = rs.length := by simp [hl]
    rw [hz] at h; exact h
  · have hi := (List.getElem?_eq_some_iff.1 hr).1
    obtain ⟨x, hx⟩ : ∃ x, bs[i]? = some x := ⟨bs[i]'(by omega), List.getElem?_eq_getElem _⟩
    obtain ⟨h1, h2, t', fz', h3⟩ := hin i x r hx hr
    refine ⟨Value.slice (some ⟨x, 0, none⟩) r.length r.length, by rw [List.getElem?_zipWith, hx, hr], ?_⟩
    have h := reads_block h3 h1 r.length (by simp) h2
    rw [List.length_map] at h
    exact h
theorem rows_two {α : Type} {enc : α → Value} {w : World} {B b x y : Nat} {r s : List α} {t t1 t2 : TypeId} {fz fz1 fz2 : Nat × Nat}
    (hob : w.heap[b]? = some (.cells #[.slice (some ⟨x, 0, none⟩) r.length r.length, .slice (some ⟨y, 0, none⟩) s.length s.length] t fz)) (hB : b < B) (hx : x < B) (hy : y < B) (hr : r.length ≤ maxLen) (hs : s.length ≤ maxLen)
    (h1 : w.heap[x]? = some (.cells (r.map enc).toArray t1 fz1)) (h2 : w.heap[y]? = some (.cells (s.map enc).toArray t2 fz2)) : w.rows enc B (.slice (some ⟨b, 0, none⟩) 2 2) [r, s] := by
  refine rows_of (bs := [x, y]) (rs := [r, s]) rfl (by unfold maxLen; simp) hob hB fun i z q hz hq => ?_
  match i with
  | 0 => obtain rfl : x = z := by simpa using hz
         obtain rfl : r = q := by simpa using hq
         exact ⟨hx, hr, _, _, h1⟩
  | 1 => obtain rfl : y = z := by simpa using hz
         obtain rfl : s = q := by simpa using hq
         exact ⟨hy, hs, _, _, h2⟩
  | i + 2 => simp at hz
theorem rows_none (W : World) : W.rows u32V W.heap.size (.slice none 0 0) ([] : List (List Nat)) := ⟨[], rfl, reads_nil _ _, fun i r h => by simp at h⟩
theorem built_ab (W : World) (r s : List Nat) (t t1 t2 : TypeId) (hr : r.length ≤ maxLen) (hs : s.length ≤ maxLen) : World.rows u32V (((W.alloc (.cells (r.map u32V).toArray t1)).alloc (.cells (s.map u32V).toArray t2)).alloc (.cells #[.slice (some ⟨W.heap.size, 0, none⟩) r.length r.length, .slice (some ⟨W.heap.size + 1, 0, none⟩) s.length s.length] t)) (W.heap.size + 1 + 1 + 1) (.slice (some ⟨W.heap.size + 1 + 1, 0, none⟩) 2 2) [r, s] := by
  refine rows_two (t := t) (t1 := t1) (t2 := t2) (fz := (0, 0)) (fz1 := (0, 0)) (fz2 := (0, 0)) (x := W.heap.size) (y := W.heap.size + 1) ?_ (by omega) (by omega) (by omega) hr hs ?_ ?_
  all_goals (repeat (first | exact alloc_last _ _ (by simp) | rw [Below.heap_alloc _ _ _ (by (first | (simp; done) | (simp; omega)))]))
theorem built_ba (W : World) (r s : List Nat) (t t1 t2 : TypeId) (hr : r.length ≤ maxLen) (hs : s.length ≤ maxLen) : World.rows u32V (((W.alloc (.cells (s.map u32V).toArray t2)).alloc (.cells (r.map u32V).toArray t1)).alloc (.cells #[.slice (some ⟨W.heap.size + 1, 0, none⟩) r.length r.length, .slice (some ⟨W.heap.size, 0, none⟩) s.length s.length] t)) (W.heap.size + 1 + 1 + 1) (.slice (some ⟨W.heap.size + 1 + 1, 0, none⟩) 2 2) [r, s] := by
  refine rows_two (t := t) (t1 := t1) (t2 := t2) (fz := (0, 0)) (fz1 := (0, 0)) (fz2 := (0, 0)) (x := W.heap.size + 1) (y := W.heap.size) ?_ (by omega) (by omega) (by omega) hr hs ?_ ?_
  all_goals (repeat (first | exact alloc_last _ _ (by simp) | rw [Below.heap_alloc _ _ _ (by (first | (simp; done) | (simp; omega)))]))
theorem ps17 : Ps 17 := ⟨sp_of 2 17 1 4 (by decide +kernel), sp_of 7 17 1 4 (by decide +kernel), sp_of 61 17 1 4 (by decide +kernel)⟩
theorem ps97 : Ps 97 := ⟨sp_of 2 97 3 5 (by decide +kernel), sp_of 7 97 3 5 (by decide +kernel), sp_of 61 97 3 5 (by decide +kernel)⟩
theorem prime17 : PrimeP 17 := ⟨by omega, .inr ⟨by decide, ps17⟩⟩
theorem prime97 : PrimeP 97 := ⟨by omega, .inr ⟨by decide, ps97⟩⟩
/-- Small integers come back. -/
theorem wC_small {ml : List Nat} (hs : SysP ml) {l : List Int} {j : Nat} (hj : j < l.length) (h : 2 * (l.getD j 0).natAbs < prodL ml) : wC ml (intRows ml l) j = l.getD j 0 := by
  have hq : ∀ q ∈ ml, 0 < q := fun q hq => (hs.sep.mem hq).1.pos
  refine join_small hs (col_row (intRows_ok hq l rfl) hj) (fun i p r hp hr => ?_) h
  unfold colL intRows at hr
  rw [List.getElem?_map, List.getElem?_map, hp] at hr
  injection hr with hr
  subst hr
  show Cg p (l.getD j 0) ((l.map (resN p)).getD j 0 : Nat)
  rw [getD_map_resN p l j hj]
  exact Cg.symm (cg_of (resN_back p (hq p (List.mem_of_getElem? hp)) _))
theorem aw_ints : intsB 4 [17, 97] 41 2 false [1, -1, 20, 0] = true ∧ intRows (modl [17, 97] 41 (2 : Int).toNat false) [1, -1, 20, 0] = [[1, 16, 3, 0], [1, 96, 20, 0]] := by decide +kernel
theorem aw_check : checkB 4 [17, 97] 41 2 false [[1, 16, 3, 0], [1, 96, 20, 0]] = true ∧ modl [17, 97] 41 (2 : Int).toNat false = [17, 97] := by decide +kernel
theorem aw_all : AllP (modl [17, 97] 41 (2 : Int).toNat false) := by
  rw [aw_check.2]
  intro q hq
  rcases List.mem_cons.1 hq with rfl | hq
  · exact prime17
  · obtain rfl := List.mem_singleton.1 hq
    exact prime97
theorem aw_sys : SysP [17, 97] := by
  have h := sys_modl (N := 4) (chain := [17, 97]) (sp := 41) (lv := 2) (s := false) (by decide +kernel) (by decide +kernel) (by have := aw_all; exact this)
  exact h
theorem aw_wC (j : Nat) (hj : j < 4) : wC [17, 97] [[1, 16, 3, 0], [1, 96, 20, 0]] j = [1, -1, 20, 0].getD j (0 : Int) := by
  have h := wC_small aw_sys (l := [1, -1, 20, 0]) (j := j) hj (by
    have hp : prodL [17, 97] = 1649 := by decide +kernel
    rw [hp]
    match j, hj with
    | 0, _ => decide
    | 1, _ => decide
    | 2, _ => decide
    | 3, _ => decide)
  have e : intRows [17, 97] [1, -1, 20, 0] = [[1, 16, 3, 0], [1, 96, 20, 0]] := aw_ints.2
  rw [e] at h
  exact h
theorem aw_norm : maxN (wC [17, 97] [[1, 16, 3, 0], [1, 96, 20, 0]]) 4 = 20 := by
  show max (max (max (max 0 _) _) _) _ = 20
  rw [aw_wC 0 (by omega), aw_wC 1 (by omega), aw_wC 2 (by omega), aw_wC 3 (by omega)]
  decide
set_option maxRecDepth 100000 in
set_option maxHeartbeats 16000000 in
theorem awake_any (w : World) : Calls Try.prog 12 #[] w fun e w' => e = .returned (.bool true) ∧ Below w.heap.size w w' := by
  obtain ⟨HPOST, hpost⟩ : ∃ R : Ending → World → Prop, R = fun e w' => e = .returned (.bool true) ∧ Below w.heap.size w w' := ⟨_, rfl⟩
  rw [← hpost]
  have HP := Lib.hid hpost
  clear hpost
  obtain ⟨W0, hW0⟩ : ∃ W0, W0 = ((w.alloc (.cells #[.int .u32 17, .int .u32 97] 22)).alloc (.cells #[.int .i64 4, .int .u32 0, .int .i64 0, .slice (some ⟨w.heap.size, 0, none⟩) 2 2, .int .u32 41, .int .i64 0, .int .u32 0] 25)) := ⟨_, rfl⟩
  have b0 : W0.heap[w.heap.size]? = some (.cells #[.int .u32 17, .int .u32 97] 22) := by
    rw [hW0]; repeat (first | exact alloc_last _ _ (by simp) | rw [Below.heap_alloc _ _ _ (by (first | (simp; done) | (simp; omega)))])
  have b1 : W0.heap[w.heap.size + 1]? = some (.cells #[.int .i64 4, .int .u32 0, .int .i64 0, .slice (some ⟨w.heap.size, 0, none⟩) 2 2, .int .u32 41, .int .i64 0, .int .u32 0] 25) := by
    rw [hW0]; repeat (first | exact alloc_last _ _ (by simp) | rw [Below.heap_alloc _ _ _ (by (first | (simp; done) | (simp; omega)))])
  have hz0 := lt_of_heap b1
  have hB0 : Below w.heap.size w W0 := by
    rw [hW0]; repeat (with_reducible first | refine Below.alloc ?_ (by first | omega | (simp; done) | (simp; omega)) _ | exact Below.refl _ _)
  have hr0 : W0.reads W0.heap.size (.slice (some ⟨w.heap.size, 0, none⟩) 2 2) ([17, 97].map u32V) := reads_block (l := [17, 97].map u32V) b0 (by omega) 2 (by simp) (by unfold maxLen; omega)
  obtain ⟨W1, hW1⟩ : ∃ W1, W1 = W0.alloc (.cells #[.int .i64 1, .int .i64 (-1), .int .i64 20, .int .i64 0] 2) := ⟨_, rfl⟩
  have hB1 : Below W0.heap.size W0 W1 := by rw [hW1]; exact (Below.refl _ _).alloc (Nat.le_refl _) _
  have b2 : W1.heap[W0.heap.size]? = some (.cells #[.int .i64 1, .int .i64 (-1), .int .i64 20, .int .i64 0] 2) := by rw [hW1]; exact heap_alloc_new W0 _
  have hz1 := lt_of_heap b2
  have hl1 : W1.reads W1.heap.size (.slice (some ⟨W0.heap.size, 0, none⟩) 4 4) ([1, -1, 20, 0].map i64V) := reads_block (l := [1, -1, 20, 0].map i64V) b2 (by omega) 4 (by simp) (by unfold maxLen; omega)
  have hr1 := (hr0.below hB1).mono hB1.size
  have HF := FromInts_any 4 0 0 0 0 _ [17, 97] 41 2 false _ [1, -1, 20, 0] W1 hr1 hl1
  rw [show ((41 : Nat) : Int) = 41 from rfl] at HF
  unfold IntsPost at HF
  rw [aw_ints.1, aw_ints.2] at HF
  simp only [if_true] at HF
  replace HF := Lib.hid HF
  have HR1 := Lib.hid hr1
  have HB1 := Lib.hid (below_via hB0 hB1)
  have HG1 := Lib.hid (hold_heap b1 hB1)
  obtain ⟨c0, c1, c2, c3, c4, c5, c6⟩ := par_cells b1
  have HW0 := Lib.hid hW0
  have HW1 := Lib.hid hW1
  clear hW0 hW1 b0 b1 b2 hr0 hr1 hl1 hB0 hB1
  go_enter Try.func12, Try.ntmps12
  go_upto_region 2 with (fail)
  rw [← HW0.out]
  go_wp2_with fail
  rw [← HW1.out]
  (with_reducible refine HF.out.mono ?_)
  rintro e w2 ⟨⟨rv, rfl, hv⟩, hb2⟩
  obtain ⟨ra, rc, rfl, -⟩ := hv.shape
  have HG2 := Lib.hid (hold_heap HG1.out hb2)
  have HR2 := Lib.hid ((HR1.out.below hb2).mono hb2.size)
  have HB2 := Lib.hid (below_via HB1.out hb2)
  have HV2 : Hid (w2.rows u32V w2.heap.size (.slice ra 2 rc) [[1, 16, 3, 0], [1, 96, 20, 0]]) := hv
  have hz2 := hb2.size
  clear c0 c1 c2 c3 c4 c5 c6 HF HG1 HR1 HB1 hb2 hv HW0 HW1
  go_upto_region 3 with (fail)
  obtain ⟨W3, hW3⟩ : ∃ W3, W3 = w2.alloc (.cells #[.int .i64 2, .bool false, .slice ra 2 rc] 28) := ⟨_, rfl⟩
  have hB3 : Below w2.heap.size w2 W3 := by rw [hW3]; exact (Below.refl _ _).alloc (Nat.le_refl _) _
  obtain ⟨q, hq⟩ : ∃ q, q = w2.heap.size := ⟨_, rfl⟩
  have b3 : W3.heap[q]? = some (.cells #[.int .i64 2, .bool false, .slice ra 2 rc] 28) := by rw [hW3, hq]; exact heap_alloc_new w2 _
  have hz3 := lt_of_heap b3
  have hrow3 : W3.rows u32V W3.heap.size (.slice ra 2 rc) [[1, 16, 3, 0], [1, 96, 20, 0]] := (HV2.out.below hB3).mono hB3.size
  have hr3 := (HR2.out.below hB3).mono hB3.size
  have HN := Norm_any 4 0 0 0 0 _ [17, 97] 41 2 false _ [[1, 16, 3, 0], [1, 96, 20, 0]] W3 hr3 hrow3 true ⟨fun _ => ⟨aw_check.1, aw_all⟩, fun _ => rfl⟩ 4 rfl (wC [17, 97] [[1, 16, 3, 0], [1, 96, 20, 0]]) (by rw [aw_check.2])
  rw [show ((41 : Nat) : Int) = 41 from rfl] at HN
  unfold NormPost at HN
  simp only [if_true, aw_norm] at HN
  obtain ⟨T20, hT⟩ : ∃ T, T = zT ((20 : Nat) : Int) := ⟨_, rfl⟩
  rw [← hT] at HN
  replace HN := Lib.hid HN
  have HB3 := Lib.hid (below_via HB2.out hB3)
  have HV3 := Lib.hid hrow3
  have HQ3 := Lib.hid b3
  have HT := Lib.hid hT
  obtain ⟨c0, c1, c2, c3, c4, c5, c6⟩ := par_cells (hold_heap HG2.out hB3)
  obtain ⟨k0, k1, k2, -, -, -⟩ := elem_cells b3
  have hqw : w.heap.size + 1 < q := by omega
  rw [← hW3, ← hq]
  clear hW3 HG2 HR2 HB2 HV2 hr3 hrow3 hB3 b3 hT hq
  go_wp2_with fail
  (with_reducible refine HN.out.mono ?_)
  rintro e w4 ⟨rfl, hb4⟩
  clear c0 c1 c2 c3 c4 c5 c6 k0 k1 k2 HN
  have HB4 := Lib.hid (below_via HB3.out hb4)
  have HV4 := Lib.hid ((HV3.out.below hb4).mono hb4.size)
  have HQ4 := Lib.hid (hold_heap HQ3.out hb4)
  have hz4 := hb4.size
  clear HB3 HV3 HQ3 hb4
  go_upto_region 4 with (fail)
  obtain ⟨W5, hW5⟩ : ∃ W5, W5 = w4.alloc (.cells #[.bool false, .string T20] 42) := ⟨_, rfl⟩
  have hB5 : Below w4.heap.size w4 W5 := by rw [hW5]; exact (Below.refl _ _).alloc (Nat.le_refl _) _
  obtain ⟨u, hu⟩ : ∃ u, u = w4.heap.size := ⟨_, rfl⟩
  have b5 : W5.heap[u]? = some (.cells #[.bool false, .string T20] 42) := by rw [hW5, hu]; exact heap_alloc_new w4 _
  have hz5 := lt_of_heap b5
  have HV5 := Lib.hid ((HV4.out.below hB5).mono hB5.size)
  have HB5 := Lib.hid (below_via HB4.out hB5)
  have HQ5 := Lib.hid (hold_heap HQ4.out hB5)
  have hqu : q < u := by rw [hu]; exact lt_of_heap HQ4.out
  rw [← hW5, ← hu]
  obtain ⟨k0, k1, k2, -, -, -⟩ := elem_cells HQ5.out
  obtain ⟨d0, d1, -⟩ := wide_cells b5
  have HS1 : Hid (∀ W v, Below W5.heap.size W5 W → W.rows u32V W.heap.size v [[1, 16, 3, 0], [1, 96, 20, 0]] → Calls Try.prog 34 #[.agg #[.int .i64 2, .bool false, .slice ra 2 rc], .agg #[.int .i64 2, .bool false, v]] W fun e w' => e = .returned (.bool true) ∧ Below W.heap.size W w') := fun W v hb h => by
    have := same_any 2 2 false false _ _ _ _ W ((HV5.out.below hb).mono hb.size) h
    simpa [sameB] using this
  have HS2 : Hid (∀ W, Below W5.heap.size W5 W → Calls Try.prog 34 #[.agg #[.int .i64 2, .bool false, .slice ra 2 rc], .agg #[.int .i64 0, .bool false, .slice none 0 0]] W fun e w' => e = .returned (.bool false) ∧ Below W.heap.size W w') := fun W hb => by
    have h0 : W.rows u32V W.heap.size (.slice none 0 0) ([] : List (List Nat)) := rows_none W
    have := same_any 2 0 false false _ _ _ _ W ((HV5.out.below hb).mono hb.size) h0
    simpa [sameB] using this
  have HOF : Hid (∀ W, Calls Try.prog 16 #[.int .i64 20] W fun e w' => e = .returned (.agg #[.bool false, .string T20]) ∧ Below W.heap.size W w') := fun W => by
    have := refOf_z 20 (by omega) (by omega) W
    rw [show zN 20 = false from by decide, show zT 20 = T20 from HT.out.symm] at this
    exact this
  clear HV5 HQ5 HV4 HQ4 HB4 hB5 b5 hW5 hu HT
  have hk : ∀ X, Below W5.heap.size W5 X → X.cell? ⟨q, 0, none⟩ = some (.int .i64 2) ∧ X.cell? ⟨q, 1, none⟩ = some (.bool false) ∧ X.cell? ⟨q, 2, none⟩ = some (.slice ra 2 rc) ∧ X.cell? ⟨u, 0, none⟩ = some (.bool false) ∧ X.cell? ⟨u, 1, none⟩ = some (.string T20) := fun X hb =>
    ⟨(hb.cell (p := ⟨q, 0, none⟩) (by show q < _; omega)).trans k0, (hb.cell (p := ⟨q, 1, none⟩) (by show q < _; omega)).trans k1, (hb.cell (p := ⟨q, 2, none⟩) (by show q < _; omega)).trans k2, (hb.cell (p := ⟨u, 0, none⟩) hz5).trans d0, (hb.cell (p := ⟨u, 1, none⟩) hz5).trans d1⟩
  have HKK := Lib.hid hk
  clear hk
  go_region_held3 (fun w' => w'.cell? ⟨q, 0, none⟩ = some (.int .i64 2) ∧ w'.cell? ⟨q, 1, none⟩ = some (.bool false) ∧ w'.cell? ⟨q, 2, none⟩ = some (.slice ra 2 rc) ∧ w'.cell? ⟨u, 0, none⟩ = some (.bool false) ∧ w'.cell? ⟨u, 1, none⟩ = some (.string T20))
    (first | exact ⟨k0, k1, k2, d0, d1⟩ | exact HKK.out _ (by repeat (with_reducible first | assumption | apply below_drewN | apply Below.drew | refine Below.alloc ?_ (by first | omega | (simp; done) | (simp; omega)) _ | exact Below.refl _ _)))
    (first
      | (go_simp; go_at_call 34; (with_reducible refine (HS1.out _ _ (by repeat (with_reducible first | assumption | apply below_drewN | apply Below.drew | refine Below.alloc ?_ (by first | omega | (simp; done) | (simp; omega)) _ | exact Below.refl _ _)) (by with_unfolding_all first | exact (built_ab _ [1, 16, 3, 0] [1, 96, 20, 0] _ _ _ (by unfold maxLen; simp) (by unfold maxLen; simp)).mono (by simp) | exact ((built_ab _ [1, 16, 3, 0] [1, 96, 20, 0] _ _ _ (by unfold maxLen; simp) (by unfold maxLen; simp)).below ((Below.refl _ _).drew)).mono (by simp) | exact (built_ba _ [1, 16, 3, 0] [1, 96, 20, 0] _ _ _ (by unfold maxLen; simp) (by unfold maxLen; simp)).mono (by simp) | exact ((built_ba _ [1, 16, 3, 0] [1, 96, 20, 0] _ _ _ (by unfold maxLen; simp) (by unfold maxLen; simp)).below ((Below.refl _ _).drew)).mono (by simp))).mono ?_); rintro e w6 ⟨rfl, hb6⟩; have h6 : Below W5.heap.size W5 w6 := below_via (by repeat (with_reducible first | assumption | apply below_drewN | apply Below.drew | refine Below.alloc ?_ (by first | omega | (simp; done) | (simp; omega)) _ | exact Below.refl _ _)) hb6; clear hb6)
      | (go_simp; go_at_call 16; (with_reducible refine (HOF.out _).mono ?_); rintro e w7 ⟨rfl, hb7⟩; have h7 : Below W5.heap.size W5 w7 := below_via h6 hb7; clear hb7)
      | (go_simp; go_at_call 34; (with_reducible refine (HS2.out _ h7).mono ?_); rintro e w8 ⟨rfl, hb8⟩; have h8 : Below W5.heap.size W5 w8 := below_via h7 hb8; clear hb8))
  all_goals
    go_wp2
    first
      | (rw [HP.out]; exact ⟨rfl, below_via HB5.out h8⟩)
      | (go_ret; exact ⟨rfl, below_via HB5.out h8⟩)
end Go.Proofs.Ytkjlfjnncdkmlaa.G

/- Walks: what the laws leave out. -/
namespace Go.Proofs.Ytkjlfjnncdkmlaa.G
set_option linter.all false
open Go.RowKit Go.Shelf Go.BigFrame
attribute [local go_sem] Oper.semAt_some
def smallRows (rs : List (List Nat)) (k : Nat) : Bool := (rs.take k).all fun r => decide (r.length ≤ 100)
def hugeB (rs : List (List Nat)) : Bool := !smallRows rs 60 || decide (60 < rs.length)
set_option maxRecDepth 100000 in
set_option maxHeartbeats 8000000 in
theorem huge_any (l1 : Int) (s1 : Bool) (v1 : Value) (xs : List (List Nat)) (B1 : Nat) (w : World) (h1 : w.rows u32V B1 v1 xs) (hB1 : B1 ≤ w.heap.size) :
    Calls Try.prog 38 #[.agg #[.int .i64 l1, .bool s1, v1]] w fun e w' => e = .returned (.bool (hugeB xs)) ∧ Below w.heap.size w w' := by
  have hl1 := h1.le
  obtain ⟨a1, c1, rfl, hc1, hm1, hs1⟩ := h1.shape
  obtain ⟨W0, hW0⟩ : ∃ W0, W0 = w.alloc (.cells #[.int .i64 l1, .bool s1, .slice a1 xs.length c1] 28) := ⟨_, rfl⟩
  have hB0 : Below w.heap.size w W0 := by rw [hW0]; exact (Below.refl _ w).alloc (Nat.le_refl _) _
  have g1 : W0.heap[w.heap.size]? = some (.cells #[.int .i64 l1, .bool s1, .slice a1 xs.length c1] 28) := by
    rw [hW0]; exact alloc_last _ _ rfl
  obtain ⟨hcw, -⟩ := bcell hB0
  obtain ⟨k0, k1, k2, -, -, -⟩ := elem_cells g1
  have HS1 : Hid (∀ (j : Nat) (r : List Nat), xs[j]? = some r → ∃ b off b2 c2, a1 = some ⟨b, off, none⟩ ∧ W0.cell? ⟨b, off + j, none⟩ = some (.slice b2 r.length c2)) := by
    intro j r hj
    obtain ⟨b, off, b2, c2, h1, h2, h3, h4⟩ := hs1 j r hj
    exact ⟨b, off, b2, c2, h1, by rw [hcw _ _ (by omega)]; exact h3⟩
  obtain ⟨l, hl⟩ : ∃ l, l = xs.length := ⟨_, rfl⟩
  rw [← hl] at hl1 hc1 k2 hW0
  have HW0 := Lib.hid hW0
  have HL := Lib.hid hl
  rw [← hl]
  clear hs1 hcw g1 h1 hl hW0
  go_enter Try.func38, Try.ntmps38
  go_upto_region 1 with (fail)
  rw [← HW0.out]
  go_wp2
  go_loop [3] (fun i => ∃ k : Nat, k ≤ l ∧ k ≤ 60 ∧ i = .int .i64 (k : Int) ∧ Hid (smallRows xs k = true)) (fun i => l - (intOf i).toNat)
  case atStart => exact ⟨0, Nat.zero_le _, by omega, rfl, by show _ = _; simp [smallRows]⟩
  case round =>
    obtain ⟨k, hk, hk6, rfl, hall⟩ := hrel
    by_cases hlt : k < l
    · by_cases hk60 : k < 60
      · obtain ⟨x, hx⟩ : ∃ x, xs[k]? = some x := ⟨xs[k]'(by have := HL.out; omega), List.getElem?_eq_getElem _⟩
        obtain ⟨b1, o1, p1, d1, rfl, hcx⟩ := HS1.out k x hx
        obtain ⟨m, hm⟩ : ∃ m, m = x.length := ⟨_, rfl⟩
        rw [← hm] at hcx
        have HX := Lib.hid hx
        have HM := Lib.hid hm
        clear hx hm
        by_cases hbig : 100 < m
        · have HF : Hid (smallRows xs 60 = false) := by
            show _ = _
            unfold smallRows
            rw [List.all_eq_false]
            refine ⟨x, ?_, by have := HM.out; simp; omega⟩
            exact List.mem_of_getElem? (i := k) (by rw [List.getElem?_take, if_pos hk60]; exact HX.out)
          go_wp2
          go_ret
          exact ⟨ret_bool (by unfold hugeB; rw [HF.out]; simp), hB0⟩
        · go_wp2
          go_round
          case rel => exact ⟨k + 1, by omega, by omega, by go_num, by show _ = _; unfold smallRows; rw [all_take_succ _ _ _ _ HX.out]; have h3 := hall.out; unfold smallRows at h3; rw [h3]; have := HM.out; simp; omega⟩
          case measure => simp [intOf]; omega
      · obtain rfl : k = 60 := by omega
        have HF : Hid (hugeB xs = true) := by show _ = _; unfold hugeB; have := HL.out; simp; right; omega
        go_wp2
        go_ret
        exact ⟨ret_bool (by rw [HF.out]), hB0⟩
    · obtain rfl : k = l := by omega
      have h2 := hall.out
      have HF : Hid (hugeB xs = false) := by
        show _ = _
        have h3 := HL.out
        unfold hugeB
        unfold smallRows at h2 ⊢
        rw [List.take_of_length_le (by omega)] at h2 ⊢
        rw [h2]
        simp; omega
      clear h2 hall
      go_wp2
      go_ret
      exact ⟨ret_bool (by rw [HF.out]; simp; omega), hB0⟩
end Go.Proofs.Ytkjlfjnncdkmlaa.G

/- Walks: what the ring's laws leave out, of a case. -/
namespace Go.Proofs.Ytkjlfjnncdkmlaa.G
set_option linter.all false
open Go.RowKit Go.Shelf Go.BigFrame
attribute [local go_sem] Oper.semAt_some
/-- A case of the ring's laws: what it is made of. -/
structure RCase where
  (N pr pw wt er la lb num kk level : Int)
  (cv av bv lw : Value)
  (sa sb special : Bool)
  (chain : List Nat)
  (sp : Nat)
  (xs ys : List (List Nat))
  (ls : List Int)
def RCase.cells (c : RCase) : Array Value := #[.int .i64 c.N, .int .u32 c.pr, .int .i64 c.pw, c.cv, .int .u32 (c.sp : Int), .int .i64 c.wt, .int .u32 c.er, .int .i64 c.la, .bool c.sa, c.av, .int .i64 c.lb, .bool c.sb, c.bv, .int .i64 c.num, .int .i64 c.kk, .int .i64 c.level, .bool c.special, c.lw]
def RCase.reads (c : RCase) (B : Nat) (w : World) : Prop := w.reads B c.cv (c.chain.map u32V) ∧ w.rows u32V B c.av c.xs ∧ w.rows u32V B c.bv c.ys ∧ w.reads B c.lw (c.ls.map i64V)
theorem RCase.reads.below {c : RCase} {B : Nat} {w w' : World} (h : c.reads B w) (hb : Below B w w') : c.reads B w' := ⟨h.1.below hb, h.2.1.below hb, h.2.2.1.below hb, h.2.2.2.below hb⟩
theorem RCase.reads.mono {c : RCase} {B B' : Nat} {w : World} (h : c.reads B w) (hb : B ≤ B') : c.reads B' w := ⟨h.1.mono hb, h.2.1.mono hb, h.2.2.1.mono hb, h.2.2.2.mono hb⟩
def largeB (c : RCase) : Bool := hugeB c.xs || hugeB c.ys || decide (100 < c.chain.length) || decide (100 < c.ls.length)
set_option maxRecDepth 100000 in
set_option maxHeartbeats 16000000 in
theorem large_any (c : RCase) (w : World) (h : c.reads w.heap.size w) : Calls Try.prog 11 #[.agg c.cells] w fun e w' => e = .returned (.bool (largeB c)) ∧ Below w.heap.size w w' := by
  obtain ⟨HPOST, hpost⟩ : ∃ R : Ending → World → Prop, R = fun e w' => e = .returned (.bool (largeB c)) ∧ Below w.heap.size w w' := ⟨_, rfl⟩
  rw [← hpost]
  have HP := Lib.hid hpost
  clear hpost
  obtain ⟨hrc, hra, hrb, hrl⟩ := h
  obtain ⟨c1, cc, hcv, hcc, hcm, -⟩ := reads_u32 hrc
  obtain ⟨l1, lc, hlv, hlc, hlm, -⟩ := reads_i64 hrl
  have HRA := Lib.hid hra
  have HRB := Lib.hid hrb
  clear hrc hra hrb hrl
  unfold RCase.cells
  rw [hcv, hlv]
  obtain ⟨m, hm⟩ : ∃ m, m = c.chain.length := ⟨_, rfl⟩
  obtain ⟨L, hL⟩ : ∃ L, L = c.ls.length := ⟨_, rfl⟩
  rw [← hm] at hcc ⊢
  rw [← hL] at hlc ⊢
  obtain ⟨W0, hW0⟩ : ∃ W0, W0 = w.alloc (.cells #[.int .i64 c.N, .int .u32 c.pr, .int .i64 c.pw, .slice c1 m cc, .int .u32 (c.sp : Int), .int .i64 c.wt, .int .u32 c.er, .int .i64 c.la, .bool c.sa, c.av, .int .i64 c.lb, .bool c.sb, c.bv, .int .i64 c.num, .int .i64 c.kk, .int .i64 c.level, .bool c.special, .slice l1 L lc] 31) := ⟨_, rfl⟩
  have hB0 : Below w.heap.size w W0 := by rw [hW0]; exact (Below.refl _ w).alloc (Nat.le_refl _) _
  have g0 : W0.heap[w.heap.size]? = some (.cells #[.int .i64 c.N, .int .u32 c.pr, .int .i64 c.pw, .slice c1 m cc, .int .u32 (c.sp : Int), .int .i64 c.wt, .int .u32 c.er, .int .i64 c.la, .bool c.sa, c.av, .int .i64 c.lb, .bool c.sb, c.bv, .int .i64 c.num, .int .i64 c.kk, .int .i64 c.level, .bool c.special, .slice l1 L lc] 31) := by
    rw [hW0]; exact alloc_last _ _ rfl
  have hz0 := lt_of_heap g0
  have HA := Lib.hid (huge_any c.la c.sa c.av c.xs w.heap.size W0 (HRA.out.below hB0) hB0.size)
  have HB := Lib.hid (fun W hb => huge_any c.lb c.sb c.bv c.ys w.heap.size W (HRB.out.below (hB0.trans (Below.mono hb hB0.size))) (Nat.le_trans hB0.size (Below.size hb)))
  have HK : Hid (∀ W, Below W0.heap.size W0 W → W.cell? ⟨w.heap.size, 3, none⟩ = some (.slice c1 m cc) ∧ W.cell? ⟨w.heap.size, 7, none⟩ = some (.int .i64 c.la) ∧ W.cell? ⟨w.heap.size, 8, none⟩ = some (.bool c.sa) ∧ W.cell? ⟨w.heap.size, 9, none⟩ = some c.av ∧ W.cell? ⟨w.heap.size, 10, none⟩ = some (.int .i64 c.lb) ∧ W.cell? ⟨w.heap.size, 11, none⟩ = some (.bool c.sb) ∧ W.cell? ⟨w.heap.size, 12, none⟩ = some c.bv ∧ W.cell? ⟨w.heap.size, 17, none⟩ = some (.slice l1 L lc)) := fun W hb => by
    have g := hold_heap g0 hb
    refine ⟨?_, ?_, ?_, ?_, ?_, ?_, ?_, ?_⟩ <;> simp [World.cell?, g]
  have HW0 := Lib.hid hW0
  obtain ⟨ha, hha⟩ : ∃ b, b = hugeB c.xs := ⟨_, rfl⟩
  obtain ⟨hb, hhb⟩ : ∃ b, b = hugeB c.ys := ⟨_, rfl⟩
  have HR : Hid (largeB c = (ha || hb || decide (100 < m) || decide (100 < L))) := by show _ = _; rw [hha, hhb, hm, hL]; rfl
  rw [← hha] at HA
  simp only [← hhb] at HB
  have HB0 := Lib.hid hB0
  obtain ⟨k3, k7, k8, k9, -, -, -, -⟩ := HK.out W0 (Below.refl _ _)
  clear hm hL hcv hlv g0 hW0 hha hhb hB0
  go_enter Try.func11, Try.ntmps11
  go_upto_region 1 with (fail)
  rw [← HW0.out]
  cases ha with
  | true =>
    go_wp2_with fail
    (with_reducible refine HA.out.mono ?_)
    rintro e w1 ⟨rfl, hb1⟩
    have HB1 := Lib.hid (below_via HB0.out hb1)
    clear hb1 k3 k7 k8 k9
    go_wp2
    rw [HP.out]
    exact ⟨by rw [HR.out]; rfl, HB1.out⟩
  | false =>
    go_wp2_with fail
    (with_reducible refine HA.out.mono ?_)
    rintro e w1 ⟨rfl, hb1⟩
    have HB1 := Lib.hid (below_via HB0.out hb1)
    have HBB := Lib.hid (HB.out w1 hb1)
    have HC1 := Lib.hid hb1
    clear k3 k7 k8 k9
    obtain ⟨-, -, -, -, k10, k11, k12, -⟩ := HK.out w1 hb1
    clear hb1
    go_wp2_with fail
    (with_reducible refine HBB.out.mono ?_)
    rintro e w2 ⟨rfl, hb2⟩
    have HB2 := Lib.hid (below_via HB1.out hb2)
    obtain ⟨k3, -, -, -, -, -, -, k17⟩ := HK.out w2 (below_via HC1.out hb2)
    clear hb2 k10 k11 k12
    cases hb with
    | true =>
      go_wp2
      rw [HP.out]
      exact ⟨by rw [HR.out]; rfl, HB2.out⟩
    | false =>
      by_cases hm1 : 100 < m
      · have t1 : (100 : Int) < (m : Int) := by omega
        have HH : Hid (largeB c = true) := by show _ = _; rw [HR.out]; simp [hm1]
        clear HR hm1
        go_wp2
        rw [HP.out]
        exact ⟨by rw [HH.out]; rfl, HB2.out⟩
      · have t1 : ¬ (100 : Int) < (m : Int) := by omega
        by_cases hl1 : 100 < L
        · have t2 : (100 : Int) < (L : Int) := by omega
          have HH : Hid (largeB c = true) := by show _ = _; rw [HR.out]; simp [hl1]
          clear HR hm1 hl1
          go_wp2
          rw [HP.out]
          exact ⟨by rw [HH.out]; rfl, HB2.out⟩
        · have t2 : ¬ (100 : Int) < (L : Int) := by omega
          have HH : Hid (largeB c = false) := by show _ = _; rw [HR.out]; simp [hl1, hm1]
          clear HR hm1 hl1
          go_wp2
          rw [HP.out]
          exact ⟨by rw [HH.out]; simp [t1, t2], HB2.out⟩
end Go.Proofs.Ytkjlfjnncdkmlaa.G

/- The ring's functions in one shape; elements in boxes; what is made passes the check. -/
namespace Go.Proofs.Ytkjlfjnncdkmlaa.G
set_option linter.all false
open Go.RowKit Go.Shelf Go.BigFrame
attribute [local go_sem] Oper.semAt_some
/-- An element in a box. -/
structure ElAt (W : World) (b : Nat) (la : Int) (sa : Bool) (v : Value) (rs : List (List Nat)) : Prop where
  heap : W.heap[b]? = some (.cells #[.int .i64 la, .bool sa, v] 28)
  rows : W.rows u32V W.heap.size v rs
theorem ElAt.below {W W' : World} {b : Nat} {la : Int} {sa : Bool} {v : Value} {rs : List (List Nat)} (h : Hid (ElAt W b la sa v rs)) (hb : Below W.heap.size W W') : Hid (ElAt W' b la sa v rs) :=
  ⟨hold_heap (w := W) h.out.heap hb, (h.out.rows.below hb).mono hb.size⟩
theorem ElAt.new {W : World} {la : Int} {sa : Bool} {v : Value} {rs : List (List Nat)} (h : W.rows u32V W.heap.size v rs) : Hid (ElAt (W.alloc (.cells #[.int .i64 la, .bool sa, v] 28)) W.heap.size la sa v rs) :=
  ⟨heap_alloc_new W _, (h.below ((Below.refl _ W).alloc (Nat.le_refl _) _)).mono (by simp)⟩
theorem below_new (W : World) (o : Obj) : Below W.heap.size W (W.alloc o) := (Below.refl _ W).alloc (Nat.le_refl _) _
theorem hB {a b c : World} (h : Hid (Below a.heap.size a b)) (k : Below b.heap.size b c) : Hid (Below a.heap.size a c) := below_via h.out k
theorem hR {W W' : World} {v : Value} {l : List Value} (h : Hid (W.reads W.heap.size v l)) (hb : Below W.heap.size W W') : Hid (W'.reads W'.heap.size v l) := (h.out.below hb).mono hb.size
theorem hRow {W W' : World} {v : Value} {l : List (List Nat)} (h : Hid (W.rows u32V W.heap.size v l)) (hb : Below W.heap.size W W') : Hid (W'.rows u32V W'.heap.size v l) := (h.out.below hb).mono hb.size
theorem hG {W W' : World} {b : Nat} {cs : Array Value} {t : TypeId} (h : Hid (W.heap[b]? = some (.cells cs t))) (hb : Below W.heap.size W W') : Hid (W'.heap[b]? = some (.cells cs t)) := hold_heap (w := W) h.out hb
/-- What a function answers that makes an element, or refuses: in one shape. -/
def EltAny (ok : Bool) (lv : Int) (s : Bool) (rows : List (List Nat)) (w : World) (e : Ending) (w' : World) : Prop :=
  ∃ (la : Int) (sa : Bool) (ra : Option Addr) (n rc : Nat) (rs : List (List Nat)) (er : Int), e = .returned (.tuple #[.agg #[.int .i64 la, .bool sa, .slice ra n rc], .int .i64 er]) ∧ w'.rows u32V w'.heap.size (.slice ra n rc) rs ∧
    (ok = true → lv = la ∧ s = sa ∧ rows = rs ∧ 0 = er) ∧ (ok = false → 0 = la ∧ false = sa ∧ [] = rs ∧ 2 = er) ∧ Below w.heap.size w w'
theorem EltPost.any {ok : Bool} {lv : Int} {s : Bool} {rows : List (List Nat)} {w w' : World} {e : Ending} (h : EltPost ok lv s rows w e w') : EltAny ok lv s rows w e w' := by
  obtain ⟨h1, h2⟩ := h
  cases ok with
  | true =>
    rw [if_pos rfl] at h1
    obtain ⟨rv, rfl, h3⟩ := h1
    have h4 := h3.rows
    obtain ⟨ra, rc, rfl, -⟩ := h4.shape
    exact ⟨lv, s, ra, rows.length, rc, rows, 0, rfl, h4, fun _ => ⟨rfl, rfl, rfl, rfl⟩, (fun h => by cases h), h2⟩
  | false =>
    rw [if_neg (by decide)] at h1
    subst h1
    exact ⟨0, false, none, 0, 0, [], 2, rfl, rows_none _, (fun h => by cases h), fun _ => ⟨rfl, rfl, rfl, rfl⟩, h2⟩
set_option maxRecDepth 100000 in
set_option maxHeartbeats 8000000 in
theorem lsame_any {l1 l2 : Int} {s1 s2 : Bool} {v1 v2 : Value} {xs ys : List (List Nat)} {w : World} (h1 : w.rows u32V w.heap.size v1 xs) (h2 : w.rows u32V w.heap.size v2 ys) (b : Bool) (hb : b = (decide (l1 = l2) && decide (s1 = s2) && decide (xs = ys))) :
    Calls Try.prog 19 #[.agg #[.int .i64 l1, .bool s1, v1], .agg #[.int .i64 l2, .bool s2, v2]] w fun e w' => e = .returned (.bool b) ∧ Below w.heap.size w w' := by
  obtain ⟨HPOST, hpost⟩ : ∃ R : Ending → World → Prop, R = fun e w' => e = .returned (.bool b) ∧ Below w.heap.size w w' := ⟨_, rfl⟩
  rw [← hpost]
  obtain ⟨a1, c1, rfl, -⟩ := h1.shape
  obtain ⟨a2, c2, rfl, -⟩ := h2.shape
  obtain ⟨W0, hW0⟩ : ∃ W0, W0 = (w.alloc (.cells #[.int .i64 l1, .bool s1, .slice a1 xs.length c1] 28)).alloc (.cells #[.int .i64 l2, .bool s2, .slice a2 ys.length c2] 28) := ⟨_, rfl⟩
  have hB0 : Below w.heap.size w W0 := by rw [hW0]; exact ((Below.refl _ w).alloc (Nat.le_refl _) _).alloc (by simp) _
  have g1 : W0.heap[w.heap.size]? = some (.cells #[.int .i64 l1, .bool s1, .slice a1 xs.length c1] 28) := by
    rw [hW0, Below.heap_alloc _ _ _ (by simp)]; exact alloc_last _ _ rfl
  have g2 : W0.heap[w.heap.size + 1]? = some (.cells #[.int .i64 l2, .bool s2, .slice a2 ys.length c2] 28) := by
    rw [hW0]; exact alloc_last _ _ (by simp)
  have HC := same09_any l1 l2 s1 s2 _ _ xs ys _ _ W0 ((h1.below hB0).mono hB0.size) ((h2.below hB0).mono hB0.size) (Nat.le_refl _) (Nat.le_refl _)
  rw [← hb] at HC
  replace HC := Lib.hid HC
  have HP := Lib.hid hpost
  have HW0 := Lib.hid hW0
  have HB0 := Lib.hid hB0
  obtain ⟨k0, k1, k2, -, -, -⟩ := elem_cells g1
  obtain ⟨m0, m1, m2, -, -, -⟩ := elem_cells g2
  clear hpost h1 h2 g1 g2 hW0 hB0 hb
  go_enter Try.func19, Try.ntmps19
  go_upto_region 1 with (fail)
  rw [← HW0.out]
  go_wp2_with fail
  (with_reducible refine HC.out.mono ?_)
  rintro e w1 ⟨rfl, hb1⟩
  go_wp2
  rw [HP.out]
  exact ⟨rfl, below_via HB0.out hb1⟩
end Go.Proofs.Ytkjlfjnncdkmlaa.G

/- Cases in a box; plain: what is restricted behind a product. -/
namespace Go.Proofs.Ytkjlfjnncdkmlaa.G
set_option linter.all false
open Go.RowKit Go.Shelf Go.BigFrame
theorem case_cells {W : World} {b : Nat} {u0 u1 u2 u3 u4 u5 u6 u7 u8 u9 u10 u11 u12 u13 u14 u15 u16 u17 : Value} {t : TypeId} (h : W.heap[b]? = some (.cells #[u0, u1, u2, u3, u4, u5, u6, u7, u8, u9, u10, u11, u12, u13, u14, u15, u16, u17] t)) :
    W.cell? ⟨b, 0, none⟩ = some u0 ∧ W.cell? ⟨b, 1, none⟩ = some u1 ∧ W.cell? ⟨b, 2, none⟩ = some u2 ∧ W.cell? ⟨b, 3, none⟩ = some u3 ∧ W.cell? ⟨b, 4, none⟩ = some u4 ∧ W.cell? ⟨b, 5, none⟩ = some u5 ∧ W.cell? ⟨b, 6, none⟩ = some u6 ∧ W.cell? ⟨b, 7, none⟩ = some u7 ∧ W.cell? ⟨b, 8, none⟩ = some u8 ∧ W.cell? ⟨b, 9, none⟩ = some u9 ∧ W.cell? ⟨b, 10, none⟩ = some u10 ∧ W.cell? ⟨b, 11, none⟩ = some u11 ∧ W.cell? ⟨b, 12, none⟩ = some u12 ∧ W.cell? ⟨b, 13, none⟩ = some u13 ∧ W.cell? ⟨b, 14, none⟩ = some u14 ∧ W.cell? ⟨b, 15, none⟩ = some u15 ∧ W.cell? ⟨b, 16, none⟩ = some u16 ∧ W.cell? ⟨b, 17, none⟩ = some u17 := by
  refine ⟨?_, ?_, ?_, ?_, ?_, ?_, ?_, ?_, ?_, ?_, ?_, ?_, ?_, ?_, ?_, ?_, ?_, ?_⟩ <;> simp [World.cell?, h]
end Go.Proofs.Ytkjlfjnncdkmlaa.G

/- Plain: automorphisms, as the law asks. -/
namespace Go.Proofs.Ytkjlfjnncdkmlaa.G
set_option linter.all false
open Go.RowKit Go.Shelf Go.BigFrame
/-- An element is stored into a box: rows that a function made stay. -/
theorem rowsO_elem {W : World} {base q : Nat} {rs : List (List Nat)} {v u0 u1 u2 : Value} (v0 v1 v2 : Value) (h : W.rowsO u32V base 23 22 v rs) (hq : W.heap[q]? = some (.cells #[u0, u1, u2] 28)) :
    (((W.setCell ⟨q, 0, none⟩ v0).setCell ⟨q, 1, none⟩ v1).setCell ⟨q, 2, none⟩ v2).rowsO u32V base 23 22 v rs := by
  have key : ∀ (g : Nat) (c : Array Value) (t : TypeId) (fz : Nat × Nat), W.heap[g]? = some (.cells c t fz) → t ≠ 28 → (((W.setCell ⟨q, 0, none⟩ v0).setCell ⟨q, 1, none⟩ v1).setCell ⟨q, 2, none⟩ v2).heap[g]? = W.heap[g]? := by
    intro g c t fz hg ht
    have hne : g ≠ q := by
      rintro rfl
      rw [hq] at hg
      injection hg with hg
      injection hg with _ hg _
      exact ht hg.symm
    rw [Below.heap_setCell _ _ _ _ hne, Below.heap_setCell _ _ _ _ hne, Below.heap_setCell _ _ _ _ hne]
  obtain ⟨vs, h1, h2, h3⟩ := h
  exact ⟨vs, h1, h2.keptBy fun g c fz _ hg => key g c _ fz hg (by decide), fun i r hr => by
    obtain ⟨u, k1, k2⟩ := h3 i r hr
    exact ⟨u, k1, k2.keptBy fun g c fz _ hg => key g c _ fz hg (by decide)⟩⟩
end Go.Proofs.Ytkjlfjnncdkmlaa.G

/- Walks: the reference's multiple of an element. -/
namespace Go.Proofs.Ytkjlfjnncdkmlaa.G
set_option linter.all false
open Go.RowKit Go.Shelf Go.BigFrame
attribute [local go_sem] Oper.semAt_some
end Go.Proofs.Ytkjlfjnncdkmlaa.G

/- Walks: the reference's negative of an element. -/

/- Walks: the reference's restriction of an element to fewer moduli of the chain. -/

/- Walks: the reference's restriction of an element. -/

/- Walks: the reference's automorphisms of elements. -/

/- Walks: the law's copy of an element. -/
namespace Go.Proofs.Ytkjlfjnncdkmlaa.G
set_option linter.all false
open Go.RowKit Go.Shelf Go.BigFrame
theorem hugeB_spec {xs : List (List Nat)} (h : hugeB xs = false) : xs.length ≤ 60 ∧ ∀ r ∈ xs, r.length ≤ 100 := by
  unfold hugeB smallRows at h
  simp only [Bool.or_eq_false_iff, Bool.not_eq_false', decide_eq_false_iff_not] at h
  obtain ⟨h1, h2⟩ := h
  refine ⟨by omega, fun r hr => ?_⟩
  rw [List.take_of_length_le (by omega), List.all_eq_true] at h1
  exact of_decide_eq_true (h1 r hr)
set_option maxRecDepth 100000 in
set_option maxHeartbeats 40000000 in
theorem lent_any (la : Int) (sa : Bool) (av : Value) (xs : List (List Nat)) (hh : hugeB xs = false) (w : World) (ha : w.rows u32V w.heap.size av xs) :
    Calls Try.prog 21 #[.agg #[.int .i64 la, .bool sa, av]] w (MadeElt la sa xs w) := by
  obtain ⟨hs1, hs2⟩ := hugeB_spec hh
  obtain ⟨aa, ac, rfl, hac, ham, has⟩ := ha.shape
  obtain ⟨W0, hW0⟩ : ∃ W0, W0 = (w.alloc (.cells #[.int .i64 la, .bool sa, .slice aa xs.length ac] 28)).alloc (.cells #[.int .i64 0, .bool false, .slice none 0 0] 28) := ⟨_, rfl⟩
  have hB0 : Below w.heap.size w W0 := by rw [hW0]; exact ((Below.refl _ w).alloc (Nat.le_refl _) _).alloc (by simp) _
  have e0 : W0.heap[w.heap.size]? = some (.cells #[.int .i64 la, .bool sa, .slice aa xs.length ac] 28) := by rw [hW0, Below.heap_alloc _ _ _ (by simp)]; exact alloc_last _ _ rfl
  have e2 : W0.heap[w.heap.size + 1]? = some (.cells #[.int .i64 0, .bool false, .slice none 0 0] 28) := by rw [hW0]; exact alloc_last _ _ (by simp)
  have hz0 := lt_of_heap e2
  obtain ⟨xl, hxl⟩ : ∃ m, m = xs.length := ⟨_, rfl⟩
  rw [← hxl] at hs1 e0 hW0 hac ⊢
  obtain ⟨W3, hW3⟩ : ∃ W3, W3 = W0.alloc (.cells #[.int .i64 la, .bool sa, .slice none 0 0] 28) := ⟨_, rfl⟩
  have hb3 : Below W0.heap.size W0 W3 := by rw [hW3]; exact (Below.refl _ _).alloc (Nat.le_refl _) _
  have g3 : W3.heap[W0.heap.size]? = some (.cells #[.int .i64 la, .bool sa, .slice none 0 0] 28) := by rw [hW3]; exact alloc_last _ _ rfl
  have hz3 := lt_of_heap g3
  have hBw3 := hB0.trans (hb3.mono hB0.size)
  have HAC := Lib.hid ((hb3.block w.heap.size (by omega)).trans e0)
  have HRC := Lib.hid ((hb3.block (w.heap.size + 1) (by omega)).trans e2)
  have hO0 : Hid (OutE w W3 W0.heap.size la sa (xs.take 0) W3) := OutE.start (w := w) g3 hBw3
  have HA4 : Hid (∀ (j : Nat) (r : List Nat), xs[j]? = some r → ∃ b off b2 c2, aa = some ⟨b, off, none⟩ ∧ b < w.heap.size ∧ W3.cell? ⟨b, off + j, none⟩ = some (.slice b2 r.length c2) ∧ W3.reads w.heap.size (.slice b2 r.length c2) (r.map u32V)) := by
    intro j x hj
    obtain ⟨b, off, b2, c2, q1, q2, q3, q4⟩ := has j x hj
    exact ⟨b, off, b2, c2, q1, q2, (hBw3.cell (p := ⟨b, off + j, none⟩) q2).trans q3, q4.below hBw3⟩
  obtain ⟨HPOST, hpost⟩ : ∃ R, R = MadeElt la sa xs w := ⟨_, rfl⟩
  rw [← hpost]
  have HP := Lib.hid hpost
  have HXL := Lib.hid hxl
  have HSM := Lib.hid hs2
  have HW0 := Lib.hid hW0
  have HW3 := Lib.hid hW3
  obtain ⟨i0, hi0, hiz, hiz1, hizb⟩ := info_parts info32
  obtain ⟨i1', hi1, hi1z, hi1z1, hi1b⟩ := info_parts infoU32r
  obtain ⟨k0, k1, k2, -, -, -⟩ := elem_cells e0
  clear ha has hh hs2 g3 hW3 hW0 hxl hb3 hB0 hBw3 e0 e2 hpost
  go_enter Try.func21, Try.ntmps21
  go_upto_region 1 with (fail)
  rw [← HW0.out]
  go_upto_region 2 with (fail)
  rw [← HW3.out]
  clear k0 k1 k2
  go_wp2_with fail
  go_loopw [4] (fun ii wr => ∃ k : Nat, k ≤ xl ∧ ii = .int .i64 (k : Int) ∧ Hid (OutE w W3 W0.heap.size la sa (xs.take k) wr)) (fun ii _ => xl - (intOf ii).toNat)
  case atStart => exact ⟨0, Nat.zero_le _, rfl, hO0⟩
  case round =>
    obtain ⟨wo, rfl⟩ : ∃ x, x = wr := ⟨_, rfl⟩
    clear hO0
    obtain ⟨k, hk, rfl, hO⟩ := hrel
    obtain ⟨hsr, hsb⟩ := hO.out.size
    have hol : (xs.take k).length = k := by rw [List.length_take, ← HXL.out]; omega
    obtain ⟨d0, d1, d2, -, -, -⟩ := elem_cells ((hO.out.block (b := w.heap.size) (by omega) (by omega)).trans HAC.out)
    by_cases hlt : k < xl
    · obtain ⟨x, hx⟩ : ∃ x, xs[k]? = some x := ⟨xs[k]'(by rw [← HXL.out]; omega), List.getElem?_eq_getElem _⟩
      obtain ⟨ab, ao, axb, axc, rfl, hab, hcx, hxr⟩ := HA4.out k x hx
      have hx32 : x.length ≤ 100 := HSM.out x (List.mem_of_getElem? hx)
      have HX32 := Lib.hid hx32
      obtain ⟨n, hn⟩ : ∃ n, n = x.length := ⟨_, rfl⟩
      rw [← hn] at hcx hx32 hxr
      have HN := Lib.hid hn
      have s2 : wo.cell? ⟨ab, ao + k, none⟩ = some (.slice axb n axc) := by rw [hO.out.cell (by omega) (by omega), hcx]
      obtain ⟨-, -, s4, -, -, -⟩ := elem_cells ((hO.out.block (b := w.heap.size) (by omega) (by omega)).trans HAC.out)
      obtain ⟨oa, oc, o1, o2⟩ := hO.out.open_
      rw [hol] at o1 o2
      obtain ⟨-, -, s6, -, -, -⟩ := elem_cells o1
      have hxr2 : wo.reads wo.heap.size (.slice axb n axc) (x.map u32V) := by
        have := (hO.out.reads (B := w.heap.size) (by omega) (by omega) hxr).mono (show w.heap.size ≤ wo.heap.size by omega)
        exact this
      have HX := Lib.hid hx
      have HO1 := Lib.hid o1
      have HO2 := Lib.hid o2
      have HXR := Lib.hid hxr2
      have hl6 : (xs.take k ++ [x]).length = k + 1 := by rw [List.length_append, hol]; rfl
      have n2 : ¬ ab = W0.heap.size := by omega
      have n4 : ¬ w.heap.size = W0.heap.size := by omega
      have p0 : (wo.alloc (.cells #[] 22)).cell? ⟨W0.heap.size, 2, none⟩ = some (.slice oa k oc) := (World.cell?_alloc_lt wo _ ⟨W0.heap.size, 2, none⟩ hsb).trans s6
      have u1 : w.heap.size < wo.heap.size := by omega
      have u4 : ab < wo.heap.size := by omega
      have z0 : (0 : Int) ≤ (k : Int) := by omega
      have z1 : (k : Int) < (xl : Int) := by omega
      clear hx hcx hxr o1 o2 hxr2 hn
      go_wp2_with fail
      refine wp_region_line (fun w' => w'.cell? ⟨W0.heap.size, 2, none⟩ = some (.slice oa k oc) ∧ w'.cell? ⟨w.heap.size, 2, none⟩ = some (.slice (some ⟨ab, ao, none⟩) xl ac) ∧ w'.cell? ⟨ab, ao + k, none⟩ = some (.slice axb n axc)) 12 (by kernel_rfl) ⟨s6, s4, s2⟩ (fun hHeld => ?_)
      refine wpAnyT_take 0 (v := ?_) (by kernel_rfl) rfl (by kernel_rfl) (by decide) rfl (by kernel_rfl) (by kernel_rfl) (fun _ _ _ h => h) (Or.inl ⟨by rfl, ?_⟩) (by assumption) ?_
      rotate_left
      · (intro wq hSq; (try dsimp only at hSq); go_simp; try with_reducible rfl)
      try simp only [Act.put, List.setIfInBounds_toArray, List.set_cons_zero, List.set_cons_succ]
      refine wpAnyT_take 1 (v := ?_) (by kernel_rfl) rfl (by kernel_rfl) (by decide) rfl (by kernel_rfl) (by kernel_rfl) (fun _ _ _ h => h) (Or.inl ⟨by rfl, ?_⟩) (by assumption) ?_
      rotate_left
      · (intro wq hSq; (try dsimp only at hSq); go_simp; try with_reducible rfl)
      try simp only [Act.put, List.setIfInBounds_toArray, List.set_cons_zero, List.set_cons_succ]
      refine wpAnyT_take 3 (v := ?_) (by kernel_rfl) rfl (by kernel_rfl) (by decide) rfl (by kernel_rfl) (by kernel_rfl) (fun _ _ _ h => h) (Or.inl ⟨by rfl, ?_⟩) (by assumption) ?_
      rotate_left
      · (intro wq hSq; (try dsimp only at hSq); go_simp; try with_reducible rfl)
      try simp only [Act.put, List.setIfInBounds_toArray, List.set_cons_zero, List.set_cons_succ]
      refine wpAnyT_take 4 (v := ?_) (by kernel_rfl) rfl (by kernel_rfl) (by decide) rfl (by kernel_rfl) (by kernel_rfl) (fun _ _ _ h => h) (Or.inl ⟨by rfl, ?_⟩) (by assumption) ?_
      rotate_left
      · (intro wq hSq; (try dsimp only at hSq); go_simp; try with_reducible rfl)
      try simp only [Act.put, List.setIfInBounds_toArray, List.set_cons_zero, List.set_cons_succ]
      refine wpAnyT_take 5 (v := ?_) (by kernel_rfl) rfl (by kernel_rfl) (by decide) rfl (by kernel_rfl) (by kernel_rfl) (fun _ _ _ h => h) (Or.inl ⟨by rfl, ?_⟩) (by assumption) ?_
      rotate_left
      · (intro wq hSq; (try dsimp only at hSq); go_simp; try with_reducible rfl)
      try simp only [Act.put, List.setIfInBounds_toArray, List.set_cons_zero, List.set_cons_succ]
      refine wpAnyT_take 6 (v := ?_) (by kernel_rfl) rfl (by kernel_rfl) (by decide) rfl (by kernel_rfl) (by kernel_rfl) (fun _ _ _ h => h) (Or.inl ⟨by rfl, ?_⟩) (by assumption) ?_
      rotate_left
      · (intro wq hSq; (try dsimp only at hSq); go_simp; try with_reducible rfl)
      try simp only [Act.put, List.setIfInBounds_toArray, List.set_cons_zero, List.set_cons_succ]
      refine wpAnyT_take 7 (v := ?_) (by kernel_rfl) rfl (by kernel_rfl) (by decide) rfl (by kernel_rfl) (by kernel_rfl) (fun _ _ _ h => h) (Or.inl ⟨by rfl, ?_⟩) (by assumption) ?_
      rotate_left
      · (intro wq hSq; (try dsimp only at hSq); go_simp; try with_reducible rfl)
      try simp only [Act.put, List.setIfInBounds_toArray, List.set_cons_zero, List.set_cons_succ]
      refine wpAnyT_step 2 (by kernel_rfl) rfl (fun K hK => ?_)
      go_simp
      refine hK.out _ _ ⟨p0, (World.cell?_alloc_lt wo _ ⟨w.heap.size, 2, none⟩ u1).trans s4, (World.cell?_alloc_lt wo _ ⟨ab, ao + k, none⟩ u4).trans s2⟩ (fun hHeld2 => ?_)
      clear hK K hHeld
      try simp only [Act.put, List.setIfInBounds_toArray, List.set_cons_zero, List.set_cons_succ]
      refine wpAnyT_step 8 (by kernel_rfl) rfl (fun K hK => ?_)
      refine step_append_reads (by rfl) (.tmp 19) (.tmp 24) 23 (by rfl) wo.heap.size 22 i0 (.int .u32 0) 4 Try.underlying23 hi0 hiz hiz1 hizb rfl (.slice (some ⟨wo.heap.size, 0, none⟩) 0 0) 0 [] (by rfl) ((owns_empty wo _).drew) wo.heap.size (.slice axb n axc) (x.map u32V) (by rfl) ((HXR.out.alloc (Nat.le_refl _) _).drew) (one_u32 x) (by rw [List.length_map]; have := HX32.out; unfold maxLen; omega) (by rw [List.length_map]; have := HX32.out; omega) (by simp) ?_
      intro v4 w4 hown4 hg4
      have hb4 : Below wo.heap.size wo w4 := (((Below.refl _ wo).alloc (Nat.le_refl _) _).drew).grown hg4 (by simp) (fun k hk => by simp [Value.ownBlock] at hk; omega)
      have p6 : w4.cell? ⟨W0.heap.size, 2, none⟩ = some (.slice oa k oc) := (hb4.cell (p := ⟨W0.heap.size, 2, none⟩) hsb).trans s6
      have p4 : w4.cell? ⟨w.heap.size, 2, none⟩ = some (.slice (some ⟨ab, ao, none⟩) xl ac) := (hb4.cell (p := ⟨w.heap.size, 2, none⟩) u1).trans s4
      have p2 : w4.cell? ⟨ab, ao + k, none⟩ = some (.slice axb n axc) := (hb4.cell (p := ⟨ab, ao + k, none⟩) u4).trans s2
      have hz4 := hb4.size
      have HU : Hid (w4.owns W3.heap.size 22 1 v4 x.length (x.map u32V)) := by
        have h4 := hown4
        rw [List.nil_append, Nat.zero_add, List.length_map] at h4
        exact h4.mono (by omega)
      obtain ⟨va4, vc4, rfl, -, -, -⟩ := HU.out.at_
      have p7 : (w4.alloc (.cells #[.slice va4 x.length vc4] 23)).cell? ⟨W0.heap.size, 2, none⟩ = some (.slice oa k oc) := (World.cell?_alloc_lt w4 _ ⟨W0.heap.size, 2, none⟩ (show W0.heap.size < w4.heap.size by omega)).trans p6
      have HO5 := Lib.hid (hO.out.below hb4)
      have HR5 := Lib.hid (HO2.out.below hb4)
      have HG5 := Lib.hid ((hb4.block _ hsb).trans HO1.out)
      clear hown4 hg4
      refine hK.out _ _ ⟨p6, p4, p2⟩ (fun hHeld3 => ?_)
      clear hK K hHeld2
      try simp only [Act.put, List.setIfInBounds_toArray, List.set_cons_zero, List.set_cons_succ]
      refine wpAnyT_step 9 (by kernel_rfl) rfl (fun K hK => ?_)
      go_simp
      refine hK.out _ _ ⟨p7, (World.cell?_alloc_lt w4 _ ⟨w.heap.size, 2, none⟩ (show w.heap.size < w4.heap.size by omega)).trans p4, (World.cell?_alloc_lt w4 _ ⟨ab, ao + k, none⟩ (show ab < w4.heap.size by omega)).trans p2⟩ (fun hHeld4 => ?_)
      clear hK K hHeld3
      try simp only [Act.put, List.setIfInBounds_toArray, List.set_cons_zero, List.set_cons_succ]
      refine wpAnyT_step 10 (by kernel_rfl) rfl (fun K hK => ?_)
      refine step_pushRow (by rfl) (.tmp 18) (.tmp 26) 26 (by rfl) W3.heap.size 23 22 (by decide) i1' (.slice none 0 0) 24 Try.underlying26 hi1 hi1z hi1z1 hi1b rfl (.slice oa k oc) _ (by rfl) HR5.out _ x HU.out w4.heap.size rfl (by rfl) (by rfl) (by rw [hol]; unfold maxLen; omega) (by rw [hol]; omega) (by omega) ?_
      intro v6 w6 hr6 hz6 hBB6 hKK6
      obtain ⟨va6, vc6, rfl⟩ := hr6.open_
      rw [hl6] at hr6 ⊢
      obtain ⟨h16, hO6⟩ := HO5.out.push (by omega) (by omega) hr6 hBB6
      obtain ⟨-, -, e26, -, -, f26⟩ := elem_cells (h16 _ HG5.out)
      have hb6 := hBB6 W3.heap.size w4 (Below.refl _ _) (Nat.le_refl _)
      have o4 : w6.cell? ⟨w.heap.size, 2, none⟩ = some (.slice (some ⟨ab, ao, none⟩) xl ac) := (hb6.cell (p := ⟨w.heap.size, 2, none⟩) (show w.heap.size < _ by omega)).trans p4
      have o2 : w6.cell? ⟨ab, ao + k, none⟩ = some (.slice axb n axc) := (hb6.cell (p := ⟨ab, ao + k, none⟩) (show ab < _ by omega)).trans p2
      have HO6 := Lib.hid hO6
      clear hr6 hBB6 hKK6 hO6 h16 hb6
      refine hK.out _ _ ⟨e26, o4, o2⟩ (fun hHeld5 => ?_)
      clear hK K hHeld4
      try simp only [Act.put, List.setIfInBounds_toArray, List.set_cons_zero, List.set_cons_succ]
      refine wpAnyT_take 11 (v := ?_) (by kernel_rfl) rfl (by kernel_rfl) (by decide) rfl (by kernel_rfl) (by kernel_rfl) (fun _ _ _ h => h) (Or.inl ⟨by rfl, ?_⟩) (by assumption) ?_
      rotate_left
      · (intro wq hSq; (try dsimp only at hSq); go_simp; try with_reducible rfl)
      try simp only [Act.put, List.setIfInBounds_toArray, List.set_cons_zero, List.set_cons_succ]
      refine wpAnyT_last (by kernel_rfl) (by kernel_rfl) rfl (fun K hK => ?_)
      go_simp
      refine hK.out _ _ ?_
      clear hK K hHeld5
      go_wp2
      go_roundw
      case rel =>
        refine ⟨k + 1, by omega, by go_num, ?_⟩
        show OutE _ _ _ _ _ _ _
        have ht : xs.take (k + 1) = xs.take k ++ [x] := by rw [List.take_add_one, HX.out]; rfl
        rw [ht]
        exact HO6.out
      case measure => simp [intOf]; omega
    · obtain rfl : k = xl := by omega
      obtain ⟨oa, oc, o1, o2⟩ := hO.out.open_
      rw [hol] at o1
      obtain ⟨e0', e1', e2', -, -, -⟩ := elem_cells o1
      have he6 := (hO.out.block (b := w.heap.size + 1) (by omega) (by omega)).trans HRC.out
      obtain ⟨k0, k1, k2, f0, f1, f2⟩ := elem_cells he6
      have hlz := lt_of_heap he6
      have HO1 := Lib.hid o1
      have HE6 := Lib.hid he6
      have HTK : Hid (xs.take k = xs) := by show _ = _; rw [HXL.out]; exact List.take_length
      clear o1 o2 he6
      go_wp2
      obtain ⟨W6, hW6⟩ : ∃ W6, W6 = ((wo.setCell ⟨w.heap.size + 1, 0, none⟩ (.int .i64 la)).setCell ⟨w.heap.size + 1, 1, none⟩ (.bool sa)).setCell ⟨w.heap.size + 1, 2, none⟩ (.slice oa k oc) := ⟨_, rfl⟩
      obtain ⟨h6, hr6, hB6⟩ := hO.out.store HO1.out (by omega) (by omega) HE6.out hW6
      rw [HTK.out] at hr6
      obtain ⟨j0, j1, j2, -, -, -⟩ := elem_cells h6
      rw [← hW6, HP.out]
      refine bodyPost_ret (v := .agg #[.int .i64 la, .bool sa, .slice oa k oc]) ?_ rfl ⟨⟨_, rfl, hr6.mono (by have := hO.out.size; omega)⟩, hB6⟩
      simp [results, Try.results21, go_sem, j0, j1, j2]
end Go.Proofs.Ytkjlfjnncdkmlaa.G

/- Walks: the law's overwriting of an element's rows. -/
namespace Go.Proofs.Ytkjlfjnncdkmlaa.G
set_option linter.all false
open Go.RowKit Go.Shelf Go.BigFrame
/-- Rows that may be written to, in blocks between base and top. -/
structure SpI (base top : Nat) (a : Option Addr) (rs : List (List Nat)) (W : World) : Prop where
  row : ∀ (j : Nat) (r : List Nat), rs[j]? = some r → ∃ ob b2 c2, a = some ⟨ob, 0, none⟩ ∧ base ≤ ob ∧ ob < top ∧ (∃ cu fz, W.heap[ob]? = some (.cells cu 23 fz)) ∧ W.cell? ⟨ob, j, none⟩ = some (.slice b2 r.length c2) ∧ r.length ≤ c2 ∧ c2 ≤ 9223372036854775807 ∧
    ∀ k, k < r.length → ∃ eb u, b2 = some ⟨eb, 0, none⟩ ∧ base ≤ eb ∧ eb < top ∧ (∃ cu fz, W.heap[eb]? = some (.cells cu 22 fz)) ∧ W.cell? ⟨eb, k, none⟩ = some u ∧ W.frozen? ⟨eb, k, none⟩ = false
theorem SpI.keep {base top : Nat} {a : Option Addr} {rs : List (List Nat)} {W W' : World} (h : SpI base top a rs W) (hk : ∀ b, base ≤ b → b < top → W'.heap[b]? = W.heap[b]?) : SpI base top a rs W' := ⟨fun j r hj => by
  obtain ⟨ob, b2, c2, h1, h2, h3, ⟨cu, fz, h4⟩, h5, h6, h7, h8⟩ := h.row j r hj
  have ho := hk ob h2 h3
  refine ⟨ob, b2, c2, h1, h2, h3, ⟨cu, fz, ho.trans h4⟩, (World.cell?_of_block (a := ⟨ob, j, none⟩) ho).trans h5, h6, h7, fun k hk' => ?_⟩
  obtain ⟨eb, u, e1, e2, e3, ⟨cu, fz, e4⟩, e5, e6⟩ := h8 k hk'
  have he := hk eb e2 e3
  exact ⟨eb, u, e1, e2, e3, ⟨cu, fz, he.trans e4⟩, (World.cell?_of_block (a := ⟨eb, k, none⟩) he).trans e5, (World.frozen?_of_block (a := ⟨eb, k, none⟩) he).trans e6⟩⟩
theorem SpI.below {base top : Nat} {a : Option Addr} {rs : List (List Nat)} {W W' : World} (h : SpI base top a rs W) (ht : top ≤ W.heap.size) (hb : Below W.heap.size W W') : SpI base top a rs W' :=
  h.keep fun b _ h2 => hb.block b (by omega)
theorem SpI.other {base top p k : Nat} {a : Option Addr} {rs : List (List Nat)} {W : World} {cu : Array Value} {fz : Nat × Nat} (h : SpI base top a rs W) (hp : W.heap[p]? = some (.cells cu 28 fz)) (x : Value) : SpI base top a rs (W.setCell ⟨p, k, none⟩ x) := ⟨fun j r hj => by
  obtain ⟨ob, b2, c2, h1, h2, h3, ⟨cu1, fz1, h4⟩, h5, h6, h7, h8⟩ := h.row j r hj
  have hne : ob ≠ p := by rintro rfl; rw [hp] at h4; injection h4 with h4; injection h4 with _ h4 _; exact absurd h4 (by decide)
  have ho : (W.setCell ⟨p, k, none⟩ x).heap[ob]? = W.heap[ob]? := Below.heap_setCell _ _ _ _ (by exact hne)
  refine ⟨ob, b2, c2, h1, h2, h3, ⟨cu1, fz1, ho.trans h4⟩, (World.cell?_of_block (a := ⟨ob, j, none⟩) ho).trans h5, h6, h7, fun k' hk' => ?_⟩
  obtain ⟨eb, u, e1, e2, e3, ⟨cu2, fz2, e4⟩, e5, e6⟩ := h8 k' hk'
  have hne2 : eb ≠ p := by rintro rfl; rw [hp] at e4; injection e4 with e4; injection e4 with _ e4 _; exact absurd e4 (by decide)
  have he : (W.setCell ⟨p, k, none⟩ x).heap[eb]? = W.heap[eb]? := Below.heap_setCell _ _ _ _ (by exact hne2)
  exact ⟨eb, u, e1, e2, e3, ⟨cu2, fz2, he.trans e4⟩, (World.cell?_of_block (a := ⟨eb, k', none⟩) he).trans e5, (World.frozen?_of_block (a := ⟨eb, k', none⟩) he).trans e6⟩⟩
theorem typ_set {W : World} {eb k : Nat} {x : Value} {b : Nat} {T : TypeId} (h : ∃ cu fz, W.heap[b]? = some (.cells cu T fz)) : ∃ cu fz, (W.setCell ⟨eb, k, none⟩ x).heap[b]? = some (.cells cu T fz) := by
  obtain ⟨cu, fz, h⟩ := h
  by_cases hb : b = eb
  · subst hb
    exact ⟨cu.setIfInBounds k x, fz, by simp [World.setCell, Array.getElem?_modify, h]⟩
  · exact ⟨cu, fz, (Below.heap_setCell _ _ _ _ (by exact hb)).trans h⟩
theorem SpI.set {base top : Nat} {a : Option Addr} {rs : List (List Nat)} {W : World} (h : SpI base top a rs W) {eb k : Nat} (hT : ∃ cu fz, W.heap[eb]? = some (.cells cu 22 fz)) (x : Value) : SpI base top a rs (W.setCell ⟨eb, k, none⟩ x) := ⟨fun j r hj => by
  obtain ⟨ob, b2, c2, h1, h2, h3, ⟨cu1, fz1, h4⟩, h5, h6, h7, h8⟩ := h.row j r hj
  have hne : eb ≠ ob := by
    rintro rfl
    obtain ⟨cu, fz, hT⟩ := hT
    rw [hT] at h4; injection h4 with h4; injection h4 with _ h4 _; exact absurd h4 (by decide)
  refine ⟨ob, b2, c2, h1, h2, h3, typ_set ⟨cu1, fz1, h4⟩, (World.cell?_setCell_far W ⟨eb, k, none⟩ ⟨ob, j, none⟩ x hne).trans h5, h6, h7, fun k' hk' => ?_⟩
  obtain ⟨eb', u, e1, e2, e3, e4, e5, e6⟩ := h8 k' hk'
  obtain ⟨u', hu⟩ := cell?_setCell_some (p := ⟨eb, k, none⟩) (x := x) e5
  exact ⟨eb', u', e1, e2, e3, typ_set e4, hu, by rw [World.frozen?_setCell]; exact e6⟩⟩
theorem rowsO_spI {w : World} {base : Nat} {v : Value} {rs : List (List Nat)} (h : w.rowsO u32V base 23 22 v rs) : ∃ a c, v = .slice a rs.length c ∧ rs.length ≤ c ∧ c ≤ 9223372036854775807 ∧ SpI base w.heap.size a rs w := by
  obtain ⟨vs, g1, g2, g3⟩ := h
  obtain ⟨a, c, hv, q1, q2, q3⟩ := g2.at_
  refine ⟨a, c, hv, q1, q2, ⟨fun j r hj => ?_⟩⟩
  obtain ⟨u, hu, hown⟩ := g3 j r hj
  obtain ⟨b, p1, p2, p3, p4⟩ := q3 j u hu
  have hob : ∃ cu fz, w.heap[b]? = some (.cells cu 23 fz) := by
    rcases g2.2 with ⟨r1, r2⟩ | ⟨g, cap, cur, fz, rfl, hbg, hg, -⟩
    · rw [r1] at hv; injection hv with hv; rw [← hv] at p1; cases p1
    · injection hv with hv
      rw [← hv] at p1
      injection p1 with p1; injection p1 with p1
      subst p1
      exact ⟨cur, fz, hg⟩
  obtain ⟨b2, c2, rfl, r1, r2, r3⟩ := hown.at_
  refine ⟨b, b2, c2, p1, p2, p3, hob, p4, r1, r2, fun k hk => ?_⟩
  obtain ⟨eb, e1, e2, e3, e4⟩ := r3 k (u32V (r[k]'hk)) (by simp [hk])
  rcases hown.2 with ⟨s1, s2⟩ | ⟨g, cap, cur, fz, s1, s2, s3, s4, s5, s6, s7, s8⟩
  · omega
  · injection s1 with s1
    rw [e1] at s1
    injection s1 with s1; injection s1 with s1
    subst s1
    refine ⟨eb, _, e1, e2, e3, ⟨cur, fz, s3⟩, e4, ?_⟩
    have := s4 k (by rw [s7]; omega)
    simp [World.frozen?, s3]
    omega
/-- What is not touched. -/
def SpS (base top : Nat) (w : World) (b : Nat) : Prop := (b < base ∨ (top ≤ b ∧ b < w.heap.size)) ∨ ∃ cu fz, w.heap[b]? = some (.cells cu 28 fz)
/-- What spoil leaves. -/
def SpPost (base top : Nat) (w : World) (e : Ending) (w' : World) : Prop :=
  e = .returned (.tuple #[]) ∧ KeepP (SpS base top w) w w' ∧ w.heap.size ≤ w'.heap.size ∧ ∀ B0 w0, Below B0 w0 w → B0 ≤ base → Below B0 w0 w'
set_option maxRecDepth 100000 in
set_option maxHeartbeats 8000000 in
theorem spoil_any (la : Int) (sa : Bool) (a : Option Addr) (c base top : Nat) (rs : List (List Nat)) (hl : rs.length ≤ 60) (hc : rs.length ≤ c) (hc2 : c ≤ 9223372036854775807) (w : World) (hbt : base ≤ w.heap.size) (htop : top ≤ w.heap.size) (h : SpI base top a rs w) (hrl : ∀ r ∈ rs, r.length ≤ 100) :
    Calls Try.prog 25 #[.agg #[.int .i64 la, .bool sa, .slice a rs.length c]] w (SpPost base top w) := by
  obtain ⟨n, hn⟩ : ∃ n, n = rs.length := ⟨_, rfl⟩
  rw [← hn] at hl hc ⊢
  obtain ⟨W0, hW0⟩ : ∃ W0, W0 = w.alloc (.cells #[.int .i64 la, .bool sa, .slice a n c] 28) := ⟨_, rfl⟩
  have hB0 : Below w.heap.size w W0 := by rw [hW0]; exact (Below.refl _ w).alloc (Nat.le_refl _) _
  have e0 : W0.heap[w.heap.size]? = some (.cells #[.int .i64 la, .bool sa, .slice a n c] 28) := by rw [hW0]; exact alloc_last _ _ rfl
  have hI0 := h.below htop hB0
  have hSl : ∀ b, SpS base top w b → b < w.heap.size := by
    rintro b ((h1 | h1) | ⟨cu, fz, h1⟩)
    · omega
    · exact h1.2
    · exact lt_of_heap h1
  have hK0 : KeepP (SpS base top w) w W0 := fun b hb => hB0.block b (hSl b hb)
  have hs0 := hB0.size
  obtain ⟨HPOST, hpost⟩ : ∃ R, R = SpPost base top w := ⟨_, rfl⟩
  rw [← hpost]
  have HP := Lib.hid hpost
  obtain ⟨k0, k1, k2, -, -, -⟩ := elem_cells e0
  have HE0 := Lib.hid e0
  have HI0 := Lib.hid hI0
  have HK0 := Lib.hid hK0
  have HS0 := Lib.hid hs0
  have HSL := Lib.hid hSl
  have HBB0 : Hid (∀ B0 w0, Below B0 w0 w → B0 ≤ base → Below B0 w0 W0) := fun B0 w0 h1 h2 => h1.trans (hB0.mono (by omega))
  have HN := Lib.hid hn
  have HRL := Lib.hid hrl
  have HW0 := Lib.hid hW0
  clear hn h hB0 e0 hI0 hK0 hs0 hpost hW0 hrl hSl
  go_enter Try.func25, Try.ntmps25
  go_upto_region 1 with (fail)
  rw [← HW0.out]
  obtain ⟨p, hp⟩ : ∃ p, p = w.heap.size := ⟨_, rfl⟩
  rw [← hp] at k0 k1 k2 HE0 ⊢
  have HPP := Lib.hid hp
  rw [hp.symm] at hbt htop HS0
  clear hp
  go_wp2
  go_loopw [2] (fun iv wr => ∃ i : Nat, i ≤ n ∧ iv = .int .i64 (i : Int) ∧ Hid (SpI base top a rs wr) ∧ Hid (KeepP (SpS base top w) w wr) ∧ Hid (p ≤ wr.heap.size) ∧ Hid (wr.heap[p]? = some (.cells #[.int .i64 la, .bool sa, .slice a n c] 28)) ∧ Hid (∀ B0 w0, Below B0 w0 w → B0 ≤ base → Below B0 w0 wr)) (fun iv _ => n - (intOf iv).toNat)
  case atStart => exact ⟨0, Nat.zero_le _, rfl, HI0.out, HK0.out, HS0.out, HE0.out, HBB0.out⟩
  case round =>
    obtain ⟨i, hi, rfl, HI, HK, HS, HE, HBB⟩ := hrel
    obtain ⟨wo, rfl⟩ : ∃ x, x = wr := ⟨_, rfl⟩
    clear k0 k1 k2
    obtain ⟨-, -, k2, -, -, -⟩ := elem_cells HE.out
    by_cases hlt : i < n
    · obtain ⟨r, hr⟩ : ∃ r, rs[i]? = some r := ⟨rs[i]'(by rw [← HN.out]; exact hlt), List.getElem?_eq_getElem _⟩
      have HR := Lib.hid hr
      have hrb := HRL.out r (List.mem_of_getElem? hr)
      obtain ⟨m, hm⟩ : ∃ m, m = r.length := ⟨_, rfl⟩
      rw [← hm] at hrb
      have HM := Lib.hid hm
      obtain ⟨ob, b2, c2, haob, hob1, hob2, -, g4, g5, g6, -⟩ := HI.out.row i r hr
      have HOB := Lib.hid haob
      rw [← hm] at g4 g5
      have i1 : (i : Int) < (n : Int) := by omega
      have i2 : (0 : Int) ≤ (i : Int) := by omega
      clear hr hm
      go_wp2
      go_loopw [3] (fun jv ws => ∃ j : Nat, j ≤ m ∧ jv = .int .i64 (j : Int) ∧ Hid (SpI base top a rs ws) ∧ Hid (KeepP (SpS base top w) w ws) ∧ Hid (p ≤ ws.heap.size) ∧ Hid (ws.heap[p]? = some (.cells #[.int .i64 la, .bool sa, .slice a n c] 28)) ∧ Hid (∀ B0 w0, Below B0 w0 w → B0 ≤ base → Below B0 w0 ws)) (fun jv _ => m - (intOf jv).toNat)
      case atStart => exact ⟨0, Nat.zero_le _, rfl, HI.out, HK.out, HS.out, HE.out, HBB.out⟩
      case round =>
        clear HI HK HS HE HBB k2 g4 g5 g6
        obtain ⟨j, hj, rfl, HI, HK, HS, HE, HBB⟩ := hrel
        obtain ⟨ws, rfl⟩ : ∃ x, x = wr := ⟨_, rfl⟩
        obtain ⟨-, -, k2, -, -, -⟩ := elem_cells HE.out
        obtain ⟨ob', b2, c2, g1, -, -, -, g4, g5, g6, g7⟩ := HI.out.row i r HR.out
        have haob2 := HOB.out
        obtain rfl : ob' = ob := by rw [haob2] at g1; injection g1 with g1; injection g1 with g1; exact g1.symm
        subst haob2
        rw [← HM.out] at g4 g5 g7
        by_cases hltj : j < m
        · obtain ⟨eb, u, e1, e2, e3, e4, e5, e6⟩ := g7 j hltj
          subst e1
          have j1 : (j : Int) < (m : Int) := by omega
          have j2 : (0 : Int) ≤ (j : Int) := by omega
          have hns : ¬ SpS base top w eb := by
            intro hs
            have hk := HK.out eb hs
            rcases hs with (h1 | h1) | ⟨cu, fz, h1⟩
            · omega
            · omega
            · obtain ⟨cu2, fz2, e4⟩ := e4
              rw [hk, h1] at e4
              injection e4 with e4; injection e4 with _ e4 _; exact absurd e4 (by decide)
          have hpe : p ≠ eb := by
            obtain ⟨cu2, fz2, e4⟩ := e4
            rintro rfl
            rw [HE.out] at e4
            injection e4 with e4; injection e4 with _ e4 _; exact absurd e4 (by decide)
          have HI2 := Lib.hid (HI.out.set (eb := eb) (k := j) e4 (.int .u32 4294967295))
          have HK2 : Hid (KeepP (SpS base top w) w (ws.setCell ⟨eb, j, none⟩ (.int .u32 4294967295))) := HK.out.setCell (by exact hns) _
          have HS2 : Hid (p ≤ (ws.setCell ⟨eb, j, none⟩ (.int .u32 4294967295)).heap.size) := by show _ ≤ _; simp; exact HS.out
          have HE2 : Hid ((ws.setCell ⟨eb, j, none⟩ (.int .u32 4294967295)).heap[p]? = some (.cells #[.int .i64 la, .bool sa, .slice (some ⟨ob', 0, none⟩) n c] 28)) := (Below.heap_setCell _ _ _ _ (by exact hpe)).trans HE.out
          have HBB2 : Hid (∀ B0 w0, Below B0 w0 w → B0 ≤ base → Below B0 w0 (ws.setCell ⟨eb, j, none⟩ (.int .u32 4294967295))) := fun B0 w0 h1 h2 => (HBB.out B0 w0 h1 h2).setCell (by simp; omega) _
          clear g7 e4 hns hpe
          go_wp2
          go_roundw
          case rel => exact ⟨j + 1, by omega, by go_num, HI2.out, HK2.out, HS2.out, HE2.out, HBB2.out⟩
          case measure => simp [intOf]; omega
        · obtain rfl : j = m := by omega
          clear g7
          go_wp2
          go_roundw
          case rel => exact ⟨i + 1, by omega, by go_num, HI.out, HK.out, HS.out, HE.out, HBB.out⟩
          case measure => simp [intOf]; omega
    · obtain rfl : i = n := by omega
      go_wp2
      go_end0
      rw [HP.out]
      refine ⟨rfl, HK.out, ?_, HBB.out⟩
      rw [← HPP.out]; exact HS.out
end Go.Proofs.Ytkjlfjnncdkmlaa.G

/- Walks: elements of integers (the program's): their rows are owned. -/

/- Walks: the reference's products of elements. -/
namespace Go.Proofs.Ytkjlfjnncdkmlaa.G
open Go.RowKit Go.Shelf Go.BigFrame
set_option maxRecDepth 100000 in
set_option maxHeartbeats 40000000 in
theorem rmul_any (N pr pw wt er : Int) (cv : Value) (chain : List Nat) (sp : Nat) (la lb : Int) (sa sb : Bool) (av bv : Value) (xs ys : List (List Nat)) (w : World) (hr : w.reads w.heap.size cv (chain.map u32V)) (ha : w.rows u32V w.heap.size av xs) (hb : w.rows u32V w.heap.size bv ys) :
    Calls Try.prog 37 #[.agg #[.int .i64 N, .int .u32 pr, .int .i64 pw, cv, .int .u32 (sp : Int), .int .i64 wt, .int .u32 er], .agg #[.int .i64 la, .bool sa, av], .agg #[.int .i64 lb, .bool sb, bv]] w (EltPost (twoB N chain sp la lb sa sb xs ys) la sa (zipRows (prodRow N.toNat) (modl chain sp la.toNat sa) xs ys (modl chain sp la.toNat sa).length) w) := by
  obtain ⟨r, hrr⟩ : ∃ r, r = twoB N chain sp la lb sa sb xs ys := ⟨_, rfl⟩
  rw [← hrr]
  obtain ⟨mr, hmr⟩ : ∃ mr, mr = zipRows (prodRow N.toNat) (modl chain sp la.toNat sa) xs ys (modl chain sp la.toNat sa).length := ⟨_, rfl⟩
  rw [← hmr]
  obtain ⟨a, cap, rfl, hcap, hmx, -⟩ := reads_u32 hr
  obtain ⟨aa, ac, rfl, hac, ham, has⟩ := ha.shape
  obtain ⟨ba, bc, rfl, hbc, hbm, hbs⟩ := hb.shape
  obtain ⟨W0, hW0⟩ : ∃ W0, W0 = (((w.alloc (.cells #[.int .i64 N, .int .u32 pr, .int .i64 pw, .slice a chain.length cap, .int .u32 (sp : Int), .int .i64 wt, .int .u32 er] 25)).alloc (.cells #[.int .i64 la, .bool sa, .slice aa xs.length ac] 28)).alloc (.cells #[.int .i64 lb, .bool sb, .slice ba ys.length bc] 28)).alloc (.cells #[.int .i64 0, .bool false, .slice none 0 0] 28) := ⟨_, rfl⟩
  have hB0 : Below w.heap.size w W0 := by rw [hW0]; exact ((((Below.refl _ w).alloc (Nat.le_refl _) _).alloc (by simp) _).alloc (by first | (simp; done) | (simp; omega)) _).alloc (by first | (simp; done) | (simp; omega)) _
  have g0 : W0.heap[w.heap.size]? = some (.cells #[.int .i64 N, .int .u32 pr, .int .i64 pw, .slice a chain.length cap, .int .u32 (sp : Int), .int .i64 wt, .int .u32 er] 25) := by rw [hW0, Below.heap_alloc _ _ _ (by first | (simp; done) | (simp; omega)), Below.heap_alloc _ _ _ (by first | (simp; done) | (simp; omega)), Below.heap_alloc _ _ _ (by simp)]; exact alloc_last _ _ rfl
  have e0 : W0.heap[w.heap.size + 1]? = some (.cells #[.int .i64 la, .bool sa, .slice aa xs.length ac] 28) := by rw [hW0, Below.heap_alloc _ _ _ (by first | (simp; done) | (simp; omega)), Below.heap_alloc _ _ _ (by simp)]; exact alloc_last _ _ (by simp)
  have e1 : W0.heap[w.heap.size + 1 + 1]? = some (.cells #[.int .i64 lb, .bool sb, .slice ba ys.length bc] 28) := by rw [hW0, Below.heap_alloc _ _ _ (by simp)]; exact alloc_last _ _ (by simp)
  have e2 : W0.heap[w.heap.size + 1 + 1 + 1]? = some (.cells #[.int .i64 0, .bool false, .slice none 0 0] 28) := by rw [hW0]; exact alloc_last _ _ (by simp)
  have hz0 := lt_of_heap e2
  have HR0 := Lib.hid ((hr.below hB0).mono hB0.size)
  have HA0 := Lib.hid ((ha.below hB0).mono hB0.size)
  have HB0 := Lib.hid ((hb.below hB0).mono hB0.size)
  have HT := Lib.hid (two_any N pr pw wt er _ chain sp la lb sa sb _ _ xs ys W0 HR0.out HA0.out HB0.out)
  rw [← hrr] at HT
  unfold OkPost at HT
  obtain ⟨c0, c1, c2, c3, c4, c5, c6⟩ := par_cells g0
  obtain ⟨k0, k1, k2, -, -, -⟩ := elem_cells e0
  obtain ⟨j0, j1, j2, -, -, -⟩ := elem_cells e1
  have HG0 := Lib.hid g0
  have HE0 := Lib.hid e0
  have HE1 := Lib.hid e1
  have HE2 := Lib.hid e2
  have HW0 := Lib.hid hW0
  have HRR := Lib.hid hrr
  have HMR := Lib.hid hmr
  have HAS := Lib.hid has
  have HBS := Lib.hid hbs
  clear hr ha hb g0 e0 e1 e2 hW0 hrr hmr has hbs
  cases r
  · go_enter Try.func37, Try.ntmps37
    go_upto_region 1 with (fail)
    rw [← HW0.out]
    go_wp2_with fail
    refine HT.out.mono ?_
    rintro e w1 ⟨rfl, hb1⟩
    have he1 := (hb1.block _ hz0).trans HE2.out
    obtain ⟨q0, q1, q2, f0, f1, f2⟩ := elem_cells he1
    have hBw := hB0.trans (hb1.mono hB0.size)
    clear he1
    go_wp2
    refine bodyPost_ret (v := .tuple #[.agg #[.int .i64 0, .bool false, .slice none 0 0], .int .i64 2]) ?_ rfl (EltPost.no_ ?_)
    · simp [results, Try.results37, go_sem, q0, q1, q2]
    · exact ((hBw.setCell (by simp; omega) _).setCell (by simp; omega) _).setCell (by simp; omega) _
  obtain ⟨rfl, rfl, n, lv, rfl, rfl, i1, i2, i3, i4, i5, i6, i7, i8⟩ := twoB_elt HRR.out.symm
  have HMR2 : Hid (mr = zipRows (prodRow n) (modl chain sp lv sa) xs ys (modl chain sp lv sa).length) := by show _ = _; rw [HMR.out]; simp only [Int.toNat_natCast]
  have HMO := Lib.hid (fun W hb => rmoduli_any (n : Int) pr pw wt er _ chain sp lv sa W ((HR0.out.below hb).mono (Below.size hb)) i3 i4 i5)
  unfold ModPost at HMO
  have hml := modl_length chain sp lv sa i4
  obtain ⟨ml, hmlE⟩ : ∃ ml, ml = modl chain sp lv sa := ⟨_, rfl⟩
  rw [← hmlE] at HMO HMR2 i6 i7 i8 hml
  have hRb : ml.length ≤ 25 := by rw [hml]; split <;> omega
  obtain ⟨R, hR⟩ : ∃ R, R = ml.length := ⟨_, rfl⟩
  rw [i7.1, ← hR] at hac
  rw [i8.1, ← hR] at hbc
  have HI1 := Lib.hid i7.1
  have HI2 := Lib.hid i8.1
  rw [HI1.out, HI2.out, ← hR] at HW0
  rw [HI1.out, ← hR] at HE0 k2
  rw [HI2.out, ← hR] at HE1 j2
  rw [HI1.out, HI2.out, ← hR] at HT
  rw [HI1.out, HI2.out, ← hR]
  rw [← hR] at hRb
  have HRN := Lib.hid hR
  have HAE := Lib.hid i7
  have HBE := Lib.hid i8
  have HMOK := Lib.hid i6
  clear i6 i7 i8 HMR HRR hmlE hml hR i3 i4 i5
  go_enter Try.func37, Try.ntmps37
  go_upto_region 1 with (fail)
  rw [← HW0.out]
  go_wp2_with fail
  refine HT.out.mono ?_
  rintro e w2 ⟨rfl, hb1⟩
  have hs2 := hb1.size
  have he1 := (hb1.block (w.heap.size + 1) (by omega)).trans HE0.out
  clear c0 c1 c2 c3 c4 c5 c6 k0 k1 k2 j0 j1 j2
  obtain ⟨k0, k1, k2, -, -, -⟩ := elem_cells he1
  clear he1
  obtain ⟨W3, hW3⟩ : ∃ W3, W3 = w2.alloc (.cells #[.int .i64 (lv : Int), .bool sa, .slice none 0 0] 28) := ⟨_, rfl⟩
  have hb3 : Below w2.heap.size w2 W3 := by rw [hW3]; exact (Below.refl _ _).alloc (Nat.le_refl _) _
  have g3 : W3.heap[w2.heap.size]? = some (.cells #[.int .i64 (lv : Int), .bool sa, .slice none 0 0] 28) := by rw [hW3]; exact alloc_last _ _ rfl
  have hz3 := lt_of_heap g3
  have hB3 := hb1.trans (hb3.mono hs2)
  have HM3 := HMO.out W3 hB3
  have HG3 := Lib.hid ((hB3.block w.heap.size (by omega)).trans HG0.out)
  have HK3 := Lib.hid ((hB3.block (w.heap.size + 1) (by omega)).trans HE0.out)
  have HW3 := Lib.hid hW3
  clear hW3
  go_upto_region 4 with (fail)
  rw [← HW3.out]
  clear k0 k1 k2
  obtain ⟨c0, c1, c2, c3, c4, c5, c6⟩ := par_cells HG3.out
  obtain ⟨k0, k1, k2, -, -, -⟩ := elem_cells HK3.out
  go_wp2_with fail
  refine HM3.mono ?_
  rintro e W4 ⟨⟨v, rfl, hv⟩, hb4⟩
  have hB4 := hB3.trans (hb4.mono hB3.size)
  have hs4 := hb4.size
  have hBw4 := hB0.trans (hB4.mono hB0.size)
  have hg4 := (hb4.block _ hz3).trans g3
  have hb34 : w2.heap.size < W4.heap.size := by omega
  obtain ⟨va, vc, rfl, hvc, hvm, hvs⟩ := reads_u32 hv
  have HVS : Hid (∀ (j x : Nat), ml[j]? = some x → ∃ b off, va = some ⟨b, off, none⟩ ∧ b < W4.heap.size ∧ b ≠ w2.heap.size ∧ W4.cell? ⟨b, off + j, none⟩ = some (.int .u32 (x : Int))) := by
    intro j x hj
    obtain ⟨b, off, q1, q2, q3⟩ := hvs j x hj
    exact ⟨b, off, q1, q2, u32_not_elem hg4 q3, q3⟩
  have HA4 : Hid (∀ (j : Nat) (r : List Nat), xs[j]? = some r → ∃ b off b2 c2, aa = some ⟨b, off, none⟩ ∧ b < w.heap.size ∧ W4.cell? ⟨b, off + j, none⟩ = some (.slice b2 r.length c2) ∧ W4.reads w.heap.size (.slice b2 r.length c2) (r.map u32V)) := by
    intro j x hj
    obtain ⟨b, off, b2, c2, q1, q2, q3, q4⟩ := HAS.out j x hj
    exact ⟨b, off, b2, c2, q1, q2, (hBw4.cell (p := ⟨b, off + j, none⟩) q2).trans q3, q4.below hBw4⟩
  have HB4 : Hid (∀ (j : Nat) (r : List Nat), ys[j]? = some r → ∃ b off b2 c2, ba = some ⟨b, off, none⟩ ∧ b < w.heap.size ∧ W4.cell? ⟨b, off + j, none⟩ = some (.slice b2 r.length c2) ∧ W4.reads w.heap.size (.slice b2 r.length c2) (r.map u32V)) := by
    intro j x hj
    obtain ⟨b, off, b2, c2, q1, q2, q3, q4⟩ := HBS.out j x hj
    exact ⟨b, off, b2, c2, q1, q2, (hBw4.cell (p := ⟨b, off + j, none⟩) q2).trans q3, q4.below hBw4⟩
  rw [← HRN.out] at hvc ⊢
  have hO0' : Hid (OutE w W4 w2.heap.size (lv : Int) sa (zipRows (prodRow n) ml xs ys 0) W4) := OutE.start (w := w) hg4 hBw4
  have HAC := Lib.hid ((hB4.block (w.heap.size + 1) (by omega)).trans HE0.out)
  have HBC := Lib.hid ((hB4.block (w.heap.size + 1 + 1) (by omega)).trans HE1.out)
  have HRC := Lib.hid ((hB4.block (w.heap.size + 1 + 1 + 1) (by omega)).trans HE2.out)
  obtain ⟨i1', hi1, hi1z, hi1z1, hi1b⟩ := info_parts infoU32r
  clear c0 c1 c2 c3 c4 c5 c6 k0 k1 k2 g3 hv hvs hg4 HM3 hBw4 hb3 hb4 hB3 hB4 hB0 HMO hb1
  go_wp2_with fail
  go_loopw [10] (fun ii wr => ∃ k : Nat, k ≤ R ∧ ii = .int .i64 (k : Int) ∧ Hid (OutE w W4 w2.heap.size (lv : Int) sa (zipRows (prodRow n) ml xs ys k) wr)) (fun ii _ => R - (intOf ii).toNat)
  case atStart => exact ⟨0, Nat.zero_le _, rfl, hO0'⟩
  case round =>
    obtain ⟨wo, rfl⟩ : ∃ x, x = wr := ⟨_, rfl⟩
    clear hO0'
    obtain ⟨k, hk, rfl, hO⟩ := hrel
    obtain ⟨hsr, hsb⟩ := hO.out.size
    by_cases hlt : k < R
    · obtain ⟨q, hq⟩ : ∃ x, ml[k]? = some x := ⟨ml[k]'(by rw [← HRN.out]; exact hlt), List.getElem?_eq_getElem _⟩
      obtain ⟨ra, hra⟩ : ∃ x, xs[k]? = some x := ⟨xs[k]'(by rw [HAE.out.1, ← HRN.out]; exact hlt), List.getElem?_eq_getElem _⟩
      obtain ⟨rb, hrb⟩ : ∃ x, ys[k]? = some x := ⟨ys[k]'(by rw [HBE.out.1, ← HRN.out]; exact hlt), List.getElem?_eq_getElem _⟩
      obtain ⟨vb, vo, rfl, hvb1, hvb2, hcq⟩ := HVS.out k q hq
      obtain ⟨ab, ao, axb, axc, rfl, hab, hcx, hxr⟩ := HA4.out k ra hra
      obtain ⟨bb, bo, bxb, bxc, rfl, hbb, hcy, hyr⟩ := HB4.out k rb hrb
      obtain ⟨hran, q', hq', hraq⟩ := HAE.out.2 k ra hra
      obtain rfl : q = q' := by rw [hq] at hq'; injection hq'
      obtain ⟨hrbn, q', hq'2, hrbq⟩ := HBE.out.2 k rb hrb
      obtain rfl : q = q' := by rw [hq] at hq'2; injection hq'2
      have hqr := HMOK.out q (List.mem_of_getElem? hq)
      have s1 : wo.cell? ⟨vb, vo + k, none⟩ = some (.int .u32 (q : Int)) := (hO.out.cell hvb1 hvb2).trans hcq
      have s2 : wo.cell? ⟨ab, ao + k, none⟩ = some (.slice axb n axc) := by rw [hO.out.cell (by omega) (by omega), hcx, hran]
      have s3 : wo.cell? ⟨bb, bo + k, none⟩ = some (.slice bxb n bxc) := by rw [hO.out.cell (by omega) (by omega), hcy, hrbn]
      obtain ⟨-, -, s4, -, -, -⟩ := elem_cells ((hO.out.block (b := w.heap.size + 1) (by omega) (by omega)).trans HAC.out)
      obtain ⟨-, -, s5, -, -, -⟩ := elem_cells ((hO.out.block (b := w.heap.size + 1 + 1) (by omega) (by omega)).trans HBC.out)
      obtain ⟨oa, oc, o1, o2⟩ := hO.out.open_
      have hol := zipRows_length (prodRow n) ml xs ys k
      rw [hol] at o1 o2
      obtain ⟨-, -, s6, -, -, -⟩ := elem_cells o1
      have hxr2 : wo.reads wo.heap.size (.slice axb n axc) (ra.map u32V) := by
        have := (hO.out.reads (B := w.heap.size) (by omega) (by omega) hxr).mono (show w.heap.size ≤ wo.heap.size by omega)
        rw [hran] at this; exact this
      have hyr2 : wo.reads wo.heap.size (.slice bxb n bxc) (rb.map u32V) := by
        have := (hO.out.reads (B := w.heap.size) (by omega) (by omega) hyr).mono (show w.heap.size ≤ wo.heap.size by omega)
        rw [hrbn] at this; exact this
      have HPR := Lib.hid (product_any q (by omega) (by omega) n i2 _ _ ra rb wo.drew hxr2.drew hyr2.drew hran hrbn hraq hrbq)
      have HQ := Lib.hid hq
      have HRA := Lib.hid hra
      have HRB := Lib.hid hrb
      have HO1 := Lib.hid o1
      have HO2 := Lib.hid o2
      have hl6 : (zipRows (prodRow n) ml xs ys k ++ [prodRow n q ra rb]).length = k + 1 := by rw [List.length_append, hol]; rfl
      have n1 : ¬ vb = w2.heap.size := hvb2
      have n2 : ¬ ab = w2.heap.size := by omega
      have n3 : ¬ bb = w2.heap.size := by omega
      have n4 : ¬ w.heap.size + 1 = w2.heap.size := by omega
      have n5 : ¬ w.heap.size + 1 + 1 = w2.heap.size := by omega
      have u1 : w.heap.size + 1 < wo.heap.size := by omega
      have u2 : w.heap.size + 1 + 1 < wo.heap.size := by omega
      have u3 : vb < wo.heap.size := by omega
      have u4 : ab < wo.heap.size := by omega
      have u5 : bb < wo.heap.size := by omega
      have z0 : (0 : Int) ≤ (k : Int) := by omega
      have z1 : (k : Int) < (R : Int) := by omega
      clear hq hra hrb hcq hcx hcy hxr hyr hraq hrbq hq' hq'2 o1 o2 hxr2 hyr2 hran hrbn
      go_wp2_with fail
      refine wp_region_line (fun w' => w'.cell? ⟨w2.heap.size, 2, none⟩ = some (.slice oa k oc) ∧ w'.cell? ⟨vb, vo + k, none⟩ = some (.int .u32 (q : Int)) ∧ w'.cell? ⟨w.heap.size + 1, 2, none⟩ = some (.slice (some ⟨ab, ao, none⟩) R ac) ∧ w'.cell? ⟨ab, ao + k, none⟩ = some (.slice axb n axc) ∧ w'.cell? ⟨w.heap.size + 1 + 1, 2, none⟩ = some (.slice (some ⟨bb, bo, none⟩) R bc) ∧ w'.cell? ⟨bb, bo + k, none⟩ = some (.slice bxb n bxc)) 20 (by kernel_rfl) ⟨s6, s1, s4, s2, s5, s3⟩ (fun hHeld => ?_)
      refine wpAnyT_take 0 (v := ?_) (by kernel_rfl) rfl (by kernel_rfl) (by decide) rfl (by kernel_rfl) (by kernel_rfl) (fun _ _ _ h => h) (Or.inl ⟨by rfl, ?_⟩) (by assumption) ?_
      rotate_left
      · (intro wq hSq; (try dsimp only at hSq); go_simp; try with_reducible rfl)
      try simp only [Act.put, List.setIfInBounds_toArray, List.set_cons_zero, List.set_cons_succ]
      refine wpAnyT_take 1 (v := ?_) (by kernel_rfl) rfl (by kernel_rfl) (by decide) rfl (by kernel_rfl) (by kernel_rfl) (fun _ _ _ h => h) (Or.inl ⟨by rfl, ?_⟩) (by assumption) ?_
      rotate_left
      · (intro wq hSq; (try dsimp only at hSq); go_simp; try with_reducible rfl)
      try simp only [Act.put, List.setIfInBounds_toArray, List.set_cons_zero, List.set_cons_succ]
      refine wpAnyT_take 2 (v := ?_) (by kernel_rfl) rfl (by kernel_rfl) (by decide) rfl (by kernel_rfl) (by kernel_rfl) (fun _ _ _ h => h) (Or.inl ⟨by rfl, ?_⟩) (by assumption) ?_
      rotate_left
      · (intro wq hSq; (try dsimp only at hSq); go_simp; try with_reducible rfl)
      try simp only [Act.put, List.setIfInBounds_toArray, List.set_cons_zero, List.set_cons_succ]
      refine wpAnyT_take 3 (v := ?_) (by kernel_rfl) rfl (by kernel_rfl) (by decide) rfl (by kernel_rfl) (by kernel_rfl) (fun _ _ _ h => h) (Or.inl ⟨by rfl, ?_⟩) (by assumption) ?_
      rotate_left
      · (intro wq hSq; (try dsimp only at hSq); go_simp; try with_reducible rfl)
      try simp only [Act.put, List.setIfInBounds_toArray, List.set_cons_zero, List.set_cons_succ]
      refine wpAnyT_take 4 (v := ?_) (by kernel_rfl) rfl (by kernel_rfl) (by decide) rfl (by kernel_rfl) (by kernel_rfl) (fun _ _ _ h => h) (Or.inl ⟨by rfl, ?_⟩) (by assumption) ?_
      rotate_left
      · (intro wq hSq; (try dsimp only at hSq); go_simp; try with_reducible rfl)
      try simp only [Act.put, List.setIfInBounds_toArray, List.set_cons_zero, List.set_cons_succ]
      refine wpAnyT_take 5 (v := ?_) (by kernel_rfl) rfl (by kernel_rfl) (by decide) rfl (by kernel_rfl) (by kernel_rfl) (fun _ _ _ h => h) (Or.inl ⟨by rfl, ?_⟩) (by assumption) ?_
      rotate_left
      · (intro wq hSq; (try dsimp only at hSq); go_simp; try with_reducible rfl)
      try simp only [Act.put, List.setIfInBounds_toArray, List.set_cons_zero, List.set_cons_succ]
      refine wpAnyT_take 6 (v := ?_) (by kernel_rfl) rfl (by kernel_rfl) (by decide) rfl (by kernel_rfl) (by kernel_rfl) (fun _ _ _ h => h) (Or.inl ⟨by rfl, ?_⟩) (by assumption) ?_
      rotate_left
      · (intro wq hSq; (try dsimp only at hSq); go_simp; try with_reducible rfl)
      try simp only [Act.put, List.setIfInBounds_toArray, List.set_cons_zero, List.set_cons_succ]
      refine wpAnyT_take 7 (v := ?_) (by kernel_rfl) rfl (by kernel_rfl) (by decide) rfl (by kernel_rfl) (by kernel_rfl) (fun _ _ _ h => h) (Or.inl ⟨by rfl, ?_⟩) (by assumption) ?_
      rotate_left
      · (intro wq hSq; (try dsimp only at hSq); go_simp; try with_reducible rfl)
      try simp only [Act.put, List.setIfInBounds_toArray, List.set_cons_zero, List.set_cons_succ]
      refine wpAnyT_take 8 (v := ?_) (by kernel_rfl) rfl (by kernel_rfl) (by decide) rfl (by kernel_rfl) (by kernel_rfl) (fun _ _ _ h => h) (Or.inl ⟨by rfl, ?_⟩) (by assumption) ?_
      rotate_left
      · (intro wq hSq; (try dsimp only at hSq); go_simp; try with_reducible rfl)
      try simp only [Act.put, List.setIfInBounds_toArray, List.set_cons_zero, List.set_cons_succ]
      refine wpAnyT_take 9 (v := ?_) (by kernel_rfl) rfl (by kernel_rfl) (by decide) rfl (by kernel_rfl) (by kernel_rfl) (fun _ _ _ h => h) (Or.inl ⟨by rfl, ?_⟩) (by assumption) ?_
      rotate_left
      · (intro wq hSq; (try dsimp only at hSq); go_simp; try with_reducible rfl)
      try simp only [Act.put, List.setIfInBounds_toArray, List.set_cons_zero, List.set_cons_succ]
      refine wpAnyT_take 10 (v := ?_) (by kernel_rfl) rfl (by kernel_rfl) (by decide) rfl (by kernel_rfl) (by kernel_rfl) (fun _ _ _ h => h) (Or.inl ⟨by rfl, ?_⟩) (by assumption) ?_
      rotate_left
      · (intro wq hSq; (try dsimp only at hSq); go_simp; try with_reducible rfl)
      try simp only [Act.put, List.setIfInBounds_toArray, List.set_cons_zero, List.set_cons_succ]
      refine wpAnyT_take 11 (v := ?_) (by kernel_rfl) rfl (by kernel_rfl) (by decide) rfl (by kernel_rfl) (by kernel_rfl) (fun _ _ _ h => h) (Or.inl ⟨by rfl, ?_⟩) (by assumption) ?_
      rotate_left
      · (intro wq hSq; (try dsimp only at hSq); go_simp; try with_reducible rfl)
      try simp only [Act.put, List.setIfInBounds_toArray, List.set_cons_zero, List.set_cons_succ]
      refine wpAnyT_take 12 (v := ?_) (by kernel_rfl) rfl (by kernel_rfl) (by decide) rfl (by kernel_rfl) (by kernel_rfl) (fun _ _ _ h => h) (Or.inl ⟨by rfl, ?_⟩) (by assumption) ?_
      rotate_left
      · (intro wq hSq; (try dsimp only at hSq); go_simp; try with_reducible rfl)
      try simp only [Act.put, List.setIfInBounds_toArray, List.set_cons_zero, List.set_cons_succ]
      refine wpAnyT_take 13 (v := ?_) (by kernel_rfl) rfl (by kernel_rfl) (by decide) rfl (by kernel_rfl) (by kernel_rfl) (fun _ _ _ h => h) (Or.inl ⟨by rfl, ?_⟩) (by assumption) ?_
      rotate_left
      · (intro wq hSq; (try dsimp only at hSq); go_simp; try with_reducible rfl)
      try simp only [Act.put, List.setIfInBounds_toArray, List.set_cons_zero, List.set_cons_succ]
      refine wpAnyT_take 14 (v := ?_) (by kernel_rfl) rfl (by kernel_rfl) (by decide) rfl (by kernel_rfl) (by kernel_rfl) (fun _ _ _ h => h) (Or.inl ⟨by rfl, ?_⟩) (by assumption) ?_
      rotate_left
      · (intro wq hSq; (try dsimp only at hSq); go_simp; try with_reducible rfl)
      try simp only [Act.put, List.setIfInBounds_toArray, List.set_cons_zero, List.set_cons_succ]
      refine wpAnyT_take 15 (v := ?_) (by kernel_rfl) rfl (by kernel_rfl) (by decide) rfl (by kernel_rfl) (by kernel_rfl) (fun _ _ _ h => h) (Or.inl ⟨by rfl, ?_⟩) (by assumption) ?_
      rotate_left
      · (intro wq hSq; (try dsimp only at hSq); go_simp; try with_reducible rfl)
      try simp only [Act.put, List.setIfInBounds_toArray, List.set_cons_zero, List.set_cons_succ]
      refine wpAnyT_step 16 (by kernel_rfl) rfl (fun K hK => ?_)
      go_simp
      go_at_call 73
      refine HPR.out.mono ?_
      rintro e w5 ⟨⟨u, rfl, hu⟩, hb5d⟩
      have hb5 : Below wo.heap.size wo w5 := ((Below.refl wo.heap.size wo).drew).trans hb5d
      have hs5 := hb5.size
      obtain ⟨ua, uc, rfl, -, -, -⟩ := hu.at_
      have hO5 := hO.out.below hb5
      have p6 : w5.cell? ⟨w2.heap.size, 2, none⟩ = some (.slice oa k oc) := (hb5.cell (p := ⟨w2.heap.size, 2, none⟩) hsb).trans s6
      have p1 : w5.cell? ⟨vb, vo + k, none⟩ = some (.int .u32 (q : Int)) := (hb5.cell (p := ⟨vb, vo + k, none⟩) u3).trans s1
      have p4 : w5.cell? ⟨w.heap.size + 1, 2, none⟩ = some (.slice (some ⟨ab, ao, none⟩) R ac) := (hb5.cell (p := ⟨w.heap.size + 1, 2, none⟩) u1).trans s4
      have p2 : w5.cell? ⟨ab, ao + k, none⟩ = some (.slice axb n axc) := (hb5.cell (p := ⟨ab, ao + k, none⟩) u4).trans s2
      have p5 : w5.cell? ⟨w.heap.size + 1 + 1, 2, none⟩ = some (.slice (some ⟨bb, bo, none⟩) R bc) := (hb5.cell (p := ⟨w.heap.size + 1 + 1, 2, none⟩) u2).trans s5
      have p3 : w5.cell? ⟨bb, bo + k, none⟩ = some (.slice bxb n bxc) := (hb5.cell (p := ⟨bb, bo + k, none⟩) u5).trans s3
      have HU : Hid (w5.owns W4.heap.size 22 1 (.slice ua n uc) (prodRow n q ra rb).length ((prodRow n q ra rb).map u32V)) := by
        show World.owns _ _ _ _ _ _ _
        have : (prodRow n q ra rb).length = n := by simp [prodRow]
        rw [this]; exact hu.mono hsr
      have p7 : (w5.alloc (.cells #[.slice ua n uc] 23)).cell? ⟨w2.heap.size, 2, none⟩ = some (.slice oa k oc) := (World.cell?_alloc_lt w5 _ ⟨w2.heap.size, 2, none⟩ (show w2.heap.size < w5.heap.size by omega)).trans p6
      have HO5 := Lib.hid hO5
      have HR5 := Lib.hid (HO2.out.below hb5)
      have HG5 := Lib.hid ((hb5.block _ hsb).trans HO1.out)
      clear hu hO5
      refine hK.out _ _ ⟨p6, p1, p4, p2, p5, p3⟩ (fun hHeld3 => ?_)
      clear hK K hHeld
      try simp only [Act.put, List.setIfInBounds_toArray, List.set_cons_zero, List.set_cons_succ]
      refine wpAnyT_step 17 (by kernel_rfl) rfl (fun K hK => ?_)
      go_simp
      refine hK.out _ _ ⟨p7, (World.cell?_alloc_lt w5 _ ⟨vb, vo + k, none⟩ (show vb < w5.heap.size by omega)).trans p1, (World.cell?_alloc_lt w5 _ ⟨w.heap.size + 1, 2, none⟩ (show w.heap.size + 1 < w5.heap.size by omega)).trans p4, (World.cell?_alloc_lt w5 _ ⟨ab, ao + k, none⟩ (show ab < w5.heap.size by omega)).trans p2, (World.cell?_alloc_lt w5 _ ⟨w.heap.size + 1 + 1, 2, none⟩ (show w.heap.size + 1 + 1 < w5.heap.size by omega)).trans p5, (World.cell?_alloc_lt w5 _ ⟨bb, bo + k, none⟩ (show bb < w5.heap.size by omega)).trans p3⟩ (fun hHeld4 => ?_)
      clear hK K hHeld3
      try simp only [Act.put, List.setIfInBounds_toArray, List.set_cons_zero, List.set_cons_succ]
      refine wpAnyT_step 18 (by kernel_rfl) rfl (fun K hK => ?_)
      refine step_pushRow (by rfl) (.tmp 35) (.tmp 51) 26 (by rfl) W4.heap.size 23 22 (by decide) i1' (.slice none 0 0) 24 Try.underlying26 hi1 hi1z hi1z1 hi1b rfl (.slice oa k oc) _ (by rfl) HR5.out _ (prodRow n q ra rb) HU.out w5.heap.size rfl (by rfl) (by rfl) (by rw [hol]; unfold maxLen; omega) (by rw [hol]; omega) (by omega) ?_
      intro v6 w6 hr6 hz6 hBB6 hKK6
      obtain ⟨va6, vc6, rfl⟩ := hr6.open_
      rw [hl6] at hr6 ⊢
      obtain ⟨h16, hO6⟩ := HO5.out.push (by omega) (by omega) hr6 hBB6
      obtain ⟨-, -, e26, -, -, f26⟩ := elem_cells (h16 _ HG5.out)
      have hb6 := hBB6 W4.heap.size w5 (Below.refl _ _) (Nat.le_refl _)
      have o1 : w6.cell? ⟨vb, vo + k, none⟩ = some (.int .u32 (q : Int)) := (hb6.cell (p := ⟨vb, vo + k, none⟩) hvb1).trans p1
      have o4 : w6.cell? ⟨w.heap.size + 1, 2, none⟩ = some (.slice (some ⟨ab, ao, none⟩) R ac) := (hb6.cell (p := ⟨w.heap.size + 1, 2, none⟩) (show w.heap.size + 1 < _ by omega)).trans p4
      have o2 : w6.cell? ⟨ab, ao + k, none⟩ = some (.slice axb n axc) := (hb6.cell (p := ⟨ab, ao + k, none⟩) (show ab < _ by omega)).trans p2
      have o5 : w6.cell? ⟨w.heap.size + 1 + 1, 2, none⟩ = some (.slice (some ⟨bb, bo, none⟩) R bc) := (hb6.cell (p := ⟨w.heap.size + 1 + 1, 2, none⟩) (show w.heap.size + 1 + 1 < _ by omega)).trans p5
      have o3 : w6.cell? ⟨bb, bo + k, none⟩ = some (.slice bxb n bxc) := (hb6.cell (p := ⟨bb, bo + k, none⟩) (show bb < _ by omega)).trans p3
      have HO6 := Lib.hid hO6
      clear hr6 hBB6 hKK6 hO6 h16 hb6
      refine hK.out _ _ ⟨e26, o1, o4, o2, o5, o3⟩ (fun hHeld5 => ?_)
      clear hK K hHeld4
      try simp only [Act.put, List.setIfInBounds_toArray, List.set_cons_zero, List.set_cons_succ]
      refine wpAnyT_take 19 (v := ?_) (by kernel_rfl) rfl (by kernel_rfl) (by decide) rfl (by kernel_rfl) (by kernel_rfl) (fun _ _ _ h => h) (Or.inl ⟨by rfl, ?_⟩) (by assumption) ?_
      rotate_left
      · (intro wq hSq; (try dsimp only at hSq); go_simp; try with_reducible rfl)
      try simp only [Act.put, List.setIfInBounds_toArray, List.set_cons_zero, List.set_cons_succ]
      refine wpAnyT_last (by kernel_rfl) (by kernel_rfl) rfl (fun K hK => ?_)
      go_simp
      refine hK.out _ _ ?_
      clear hK K hHeld5
      go_wp2
      go_roundw
      case rel =>
        refine ⟨k + 1, by omega, by go_num, ?_⟩
        show OutE _ _ _ _ _ _ _
        rw [zipRows_succ _ _ _ _ _ _ _ _ HQ.out HRA.out HRB.out]
        exact HO6.out
      case measure => simp [intOf]; omega
    · obtain rfl : k = R := by omega
      obtain ⟨oa, oc, o1, o2⟩ := hO.out.open_
      rw [zipRows_length] at o1
      obtain ⟨e0', e1', e2', -, -, -⟩ := elem_cells o1
      have he6 := (hO.out.block (b := w.heap.size + 1 + 1 + 1) (by omega) (by omega)).trans HRC.out
      obtain ⟨k0, k1, k2, f0, f1, f2⟩ := elem_cells he6
      have hlz := lt_of_heap he6
      have HO1 := Lib.hid o1
      have HE6 := Lib.hid he6
      have HMR3 : Hid (mr = zipRows (prodRow n) ml xs ys k) := by show _ = _; rw [HMR2.out, HRN.out]
      clear o1 o2 he6
      go_wp2
      obtain ⟨W6, hW6⟩ : ∃ W6, W6 = ((wo.setCell ⟨w.heap.size + 1 + 1 + 1, 0, none⟩ (.int .i64 (lv : Int))).setCell ⟨w.heap.size + 1 + 1 + 1, 1, none⟩ (.bool sa)).setCell ⟨w.heap.size + 1 + 1 + 1, 2, none⟩ (.slice oa k oc) := ⟨_, rfl⟩
      obtain ⟨h6, hr6, hB6⟩ := hO.out.store HO1.out (by omega) (by omega) HE6.out hW6
      obtain ⟨j0, j1, j2, -, -, -⟩ := elem_cells h6
      rw [← hW6]
      refine bodyPost_ret (v := .tuple #[.agg #[.int .i64 (lv : Int), .bool sa, .slice oa k oc], .int .i64 0]) ?_ rfl (EltPost.ok_ (by rw [HMR3.out]; exact hr6.mono (by have := hO.out.size; omega)) hB6)
      simp [results, Try.results37, go_sem, j0, j1, j2]
end Go.Proofs.Ytkjlfjnncdkmlaa.G

/- Contracts: elements that are made, with rows of their own; what the overwriting of other rows leaves as it is. -/
namespace Go.Proofs.Ytkjlfjnncdkmlaa.G
set_option linter.all false
open Go.RowKit Go.Shelf Go.BigFrame
def EltOwn (ok : Bool) (lv : Int) (s : Bool) (rows : List (List Nat)) (w : World) (e : Ending) (w' : World) : Prop :=
  ∃ (la : Int) (sa : Bool) (ra : Option Addr) (n rc : Nat) (rs : List (List Nat)) (er : Int), e = .returned (.tuple #[.agg #[.int .i64 la, .bool sa, .slice ra n rc], .int .i64 er]) ∧ w'.rowsO u32V w.heap.size 23 22 (.slice ra n rc) rs ∧
    (ok = true → lv = la ∧ s = sa ∧ rows = rs ∧ 0 = er) ∧ (ok = false → 0 = la ∧ false = sa ∧ [] = rs ∧ 2 = er) ∧ Below w.heap.size w w'
theorem EltPost.own {ok : Bool} {lv : Int} {s : Bool} {rows : List (List Nat)} {w w' : World} {e : Ending} (h : EltPost ok lv s rows w e w') : EltOwn ok lv s rows w e w' := by
  obtain ⟨he, hb⟩ := h
  cases ok with
  | true =>
    rw [if_pos rfl] at he
    obtain ⟨rv, rfl, h2⟩ := he
    obtain ⟨ra, rc, rfl⟩ := h2.open_
    exact ⟨lv, s, ra, _, rc, rows, 0, rfl, h2, fun _ => ⟨rfl, rfl, rfl, rfl⟩, (fun h => by cases h), hb⟩
  | false =>
    rw [if_neg (by decide)] at he
    exact ⟨0, false, none, 0, 0, [], 2, he, World.rowsO_nil _ _ _ _, (fun h => by cases h), fun _ => ⟨rfl, rfl, rfl, rfl⟩, hb⟩
theorem el_eq {ok : Bool} {lv : Int} {s : Bool} {rows : List (List Nat)} {la la' : Int} {sa sa' : Bool} {rs rs' : List (List Nat)} {er er' : Int} (k : Hid (ok = true → lv = la ∧ s = sa ∧ rows = rs ∧ 0 = er)) (j : Hid (ok = false → 0 = la ∧ false = sa ∧ [] = rs ∧ 2 = er))
    (k' : Hid (ok = true → lv = la' ∧ s = sa' ∧ rows = rs' ∧ 0 = er')) (j' : Hid (ok = false → 0 = la' ∧ false = sa' ∧ [] = rs' ∧ 2 = er')) : la = la' ∧ sa = sa' ∧ rs = rs' ∧ er = er' := by
  cases ok with
  | true =>
    obtain ⟨rfl, rfl, rfl, rfl⟩ := k.out rfl
    obtain ⟨rfl, rfl, rfl, rfl⟩ := k'.out rfl
    exact ⟨rfl, rfl, rfl, rfl⟩
  | false =>
    obtain ⟨rfl, rfl, rfl, rfl⟩ := j.out rfl
    obtain ⟨rfl, rfl, rfl, rfl⟩ := j'.out rfl
    exact ⟨rfl, rfl, rfl, rfl⟩
/-- A result in its box; its rows lie from lo on. -/
structure ResAt (W : World) (b lo : Nat) (la : Int) (sa : Bool) (v : Value) (rs : List (List Nat)) : Prop where
  heap : W.heap[b]? = some (.cells #[.int .i64 la, .bool sa, v] 28)
  own : W.rowsO u32V lo 23 22 v rs
theorem ResAt.new {W W0 : World} {lo : Nat} {la : Int} {sa : Bool} {v : Value} {rs : List (List Nat)} (h : W.rowsO u32V W0.heap.size 23 22 v rs) (hl : lo ≤ W0.heap.size) : Hid (ResAt (W.alloc (.cells #[.int .i64 la, .bool sa, v] 28)) W.heap.size lo la sa v rs) :=
  ⟨heap_alloc_new W _, (h.below (below_new W _)).mono hl⟩
theorem ResAt.below {W W' : World} {b lo : Nat} {la : Int} {sa : Bool} {v : Value} {rs : List (List Nat)} (h : Hid (ResAt W b lo la sa v rs)) (hb : Below W.heap.size W W') : Hid (ResAt W' b lo la sa v rs) :=
  ⟨hold_heap (w := W) h.out.heap hb, h.out.own.below hb⟩
theorem ResAt.rows {W : World} {b lo : Nat} {la : Int} {sa : Bool} {v : Value} {rs : List (List Nat)} (h : ResAt W b lo la sa v rs) : W.rows u32V W.heap.size v rs := h.own.rows
theorem hLe {n : Nat} {W W' : World} (h : Hid (n ≤ W.heap.size)) (hb : Below W.heap.size W W') : Hid (n ≤ W'.heap.size) := Nat.le_trans h.out hb.size
theorem hSp {base top : Nat} {a : Option Addr} {rs : List (List Nat)} {W W' : World} (h : Hid (SpI base top a rs W ∧ top ≤ W.heap.size)) (hb : Below W.heap.size W W') : Hid (SpI base top a rs W' ∧ top ≤ W'.heap.size) := ⟨h.out.1.below h.out.2 hb, Nat.le_trans h.out.2 hb.size⟩
section
variable {base top : Nat} {W W' : World} (hk : Hid (KeepP (SpS base top W) W W'))
include hk
theorem sp_box {b : Nat} {cu : Array Value} (h : Hid (W.heap[b]? = some (.cells cu 28))) : Hid (W'.heap[b]? = some (.cells cu 28)) := (hk.out b (Or.inr ⟨cu, _, h.out⟩)).trans h.out
theorem sp_low {b : Nat} {o : Obj} (h : Hid (W.heap[b]? = some o)) (hb : b < base) : Hid (W'.heap[b]? = some o) := (hk.out b (Or.inl (Or.inl hb))).trans h.out
theorem ResAt.spoil {b lo : Nat} {la : Int} {sa : Bool} {v : Value} {rs : List (List Nat)} (h : Hid (ResAt W b lo la sa v rs)) (hl : top ≤ lo) : Hid (ResAt W' b lo la sa v rs) :=
  ⟨(sp_box hk (Lib.hid h.out.heap)).out, h.out.own.keepP hk.out (fun b h1 h2 => Or.inl (Or.inr ⟨by omega, h2⟩))⟩
theorem sp_sp {base2 top2 : Nat} {a : Option Addr} {rs : List (List Nat)} (h : Hid (SpI base2 top2 a rs W ∧ top2 ≤ W.heap.size)) (hl : top ≤ base2) (hs : W.heap.size ≤ W'.heap.size) : Hid (SpI base2 top2 a rs W' ∧ top2 ≤ W'.heap.size) :=
  ⟨h.out.1.keep (fun b h1 h2 => hk.out b (Or.inl (Or.inr ⟨by omega, by have := h.out.2; omega⟩))), Nat.le_trans h.out.2 hs⟩
end
theorem sp3 {base top p : Nat} {a : Option Addr} {rs : List (List Nat)} {W : World} {u0 u1 u2 x0 x1 x2 : Value} (h : SpI base top a rs W) (hp : W.heap[p]? = some (.cells #[u0, u1, u2] 28)) : SpI base top a rs (((W.setCell ⟨p, 0, none⟩ x0).setCell ⟨p, 1, none⟩ x1).setCell ⟨p, 2, none⟩ x2) := by
  have h1 : (W.setCell ⟨p, 0, none⟩ x0).heap[p]? = some (.cells #[x0, u1, u2] 28) := by simp [World.setCell, Array.getElem?_modify, hp]
  have h2 : ((W.setCell ⟨p, 0, none⟩ x0).setCell ⟨p, 1, none⟩ x1).heap[p]? = some (.cells #[x0, x1, u2] 28) := by simp [World.setCell, Array.getElem?_modify, hp]
  exact ((h.other hp x0).other h1 x1).other h2 x2
theorem hRow_at {W w : World} {v : Value} {rs : List (List Nat)} (h : Hid (w.rows u32V w.heap.size v rs)) (hb : Hid (Below w.heap.size w W)) : Hid (W.rows u32V W.heap.size v rs) := (h.out.below hb.out).mono hb.out.size
theorem hR_at {W w : World} {v : Value} {l : List Value} (h : Hid (w.reads w.heap.size v l)) (hb : Hid (Below w.heap.size w W)) : Hid (W.reads W.heap.size v l) := (h.out.below hb.out).mono hb.out.size
section
variable {N pr pw wt er : Int} {cv : Value} {chain : List Nat} {sp : Nat} {la lb : Int} {sa sb : Bool} {av bv : Value} {xs ys : List (List Nat)} {X : World}
theorem add_o (hr : X.reads X.heap.size cv (chain.map u32V)) (ha : X.rows u32V X.heap.size av xs) (hb : X.rows u32V X.heap.size bv ys) (n : Nat) (hn : n = N.toNat) (ml : List Nat) (hml : ml = modl chain sp la.toNat sa) (ok : Bool) (hok : ok = twoB N chain sp la lb sa sb xs ys) :
    Calls Try.prog 32 #[.agg #[.int .i64 N, .int .u32 pr, .int .i64 pw, cv, .int .u32 (sp : Int), .int .i64 wt, .int .u32 er], .agg #[.int .i64 la, .bool sa, av], .agg #[.int .i64 lb, .bool sb, bv]] X (EltOwn ok la sa (zipRows (sumRow 1 n) ml xs ys ml.length) X) := by
  subst hn hml hok
  exact (add_any N pr pw wt er cv chain sp la lb sa sb av bv xs ys X hr ha hb).mono fun _ _ h => h.own
theorem sub_o (hr : X.reads X.heap.size cv (chain.map u32V)) (ha : X.rows u32V X.heap.size av xs) (hb : X.rows u32V X.heap.size bv ys) (n : Nat) (hn : n = N.toNat) (ml : List Nat) (hml : ml = modl chain sp la.toNat sa) (ok : Bool) (hok : ok = twoB N chain sp la lb sa sb xs ys) :
    Calls Try.prog 33 #[.agg #[.int .i64 N, .int .u32 pr, .int .i64 pw, cv, .int .u32 (sp : Int), .int .i64 wt, .int .u32 er], .agg #[.int .i64 la, .bool sa, av], .agg #[.int .i64 lb, .bool sb, bv]] X (EltOwn ok la sa (zipRows (sumRow (-1) n) ml xs ys ml.length) X) := by
  subst hn hml hok
  exact (sub_any N pr pw wt er cv chain sp la lb sa sb av bv xs ys X hr ha hb).mono fun _ _ h => h.own
theorem mul_o (hr : X.reads X.heap.size cv (chain.map u32V)) (ha : X.rows u32V X.heap.size av xs) (hb : X.rows u32V X.heap.size bv ys) (n : Nat) (hn : n = N.toNat) (ml : List Nat) (hml : ml = modl chain sp la.toNat sa) (ok : Bool) (hok : ok = twoB N chain sp la lb sa sb xs ys) :
    Calls Try.prog 17 #[.agg #[.int .i64 N, .int .u32 pr, .int .i64 pw, cv, .int .u32 (sp : Int), .int .i64 wt, .int .u32 er], .agg #[.int .i64 la, .bool sa, av], .agg #[.int .i64 lb, .bool sb, bv]] X (EltOwn ok la sa (zipRows (prodRow n) ml xs ys ml.length) X) := by
  subst hn hml hok
  exact (mul_any N pr pw wt er cv chain sp la lb sa sb av bv xs ys X hr ha hb).mono fun _ _ h => h.own
theorem radd_e (hr : X.reads X.heap.size cv (chain.map u32V)) (ha : X.rows u32V X.heap.size av xs) (hb : X.rows u32V X.heap.size bv ys) (n : Nat) (hn : n = N.toNat) (ml : List Nat) (hml : ml = modl chain sp la.toNat sa) (ok : Bool) (hok : ok = twoB N chain sp la lb sa sb xs ys) :
    Calls Try.prog 35 #[.agg #[.int .i64 N, .int .u32 pr, .int .i64 pw, cv, .int .u32 (sp : Int), .int .i64 wt, .int .u32 er], .agg #[.int .i64 la, .bool sa, av], .agg #[.int .i64 lb, .bool sb, bv]] X (EltAny ok la sa (zipRows (sumRow 1 n) ml xs ys ml.length) X) := by
  subst hn hml hok
  exact (radd_any N pr pw wt er cv chain sp la lb sa sb av bv xs ys X hr ha hb).mono fun _ _ h => h.any
theorem rsub_e (hr : X.reads X.heap.size cv (chain.map u32V)) (ha : X.rows u32V X.heap.size av xs) (hb : X.rows u32V X.heap.size bv ys) (n : Nat) (hn : n = N.toNat) (ml : List Nat) (hml : ml = modl chain sp la.toNat sa) (ok : Bool) (hok : ok = twoB N chain sp la lb sa sb xs ys) :
    Calls Try.prog 36 #[.agg #[.int .i64 N, .int .u32 pr, .int .i64 pw, cv, .int .u32 (sp : Int), .int .i64 wt, .int .u32 er], .agg #[.int .i64 la, .bool sa, av], .agg #[.int .i64 lb, .bool sb, bv]] X (EltAny ok la sa (zipRows (sumRow (-1) n) ml xs ys ml.length) X) := by
  subst hn hml hok
  exact (rsub_any N pr pw wt er cv chain sp la lb sa sb av bv xs ys X hr ha hb).mono fun _ _ h => h.any
theorem rmul_e (hr : X.reads X.heap.size cv (chain.map u32V)) (ha : X.rows u32V X.heap.size av xs) (hb : X.rows u32V X.heap.size bv ys) (n : Nat) (hn : n = N.toNat) (ml : List Nat) (hml : ml = modl chain sp la.toNat sa) (ok : Bool) (hok : ok = twoB N chain sp la lb sa sb xs ys) :
    Calls Try.prog 37 #[.agg #[.int .i64 N, .int .u32 pr, .int .i64 pw, cv, .int .u32 (sp : Int), .int .i64 wt, .int .u32 er], .agg #[.int .i64 la, .bool sa, av], .agg #[.int .i64 lb, .bool sb, bv]] X (EltAny ok la sa (zipRows (prodRow n) ml xs ys ml.length) X) := by
  subst hn hml hok
  exact (rmul_any N pr pw wt er cv chain sp la lb sa sb av bv xs ys X hr ha hb).mono fun _ _ h => h.any
end
end Go.Proofs.Ytkjlfjnncdkmlaa.G

/- Drawn regions: what is waited for by way of another operation may be thought to be waited for directly. -/
namespace Go
open Go.RowKit Go.Shelf
section
variable {P : Program} {ops : Array Oper} {Q : Exit → Act → World → Prop}
theorem wpAny_trans {k m e : Nat} (hkm : waitsFor ops k m = true) (hme : waitsFor ops m e = true) :
    ∀ (fuel : Nat) (listed : Array Bool) (a : Act) (w : World), (listed.getD m false = true → listed.getD e false = true) → wpAny P .any (withEdge ops k e) Q fuel listed a w → wpAny P .any ops Q fuel listed a w := by
  have hsub : ∀ listed j, j ∈ Region.ready .any (withEdge ops k e) listed → j ∈ Region.ready .any ops listed := fun listed j hj => by
    obtain ⟨h1, o, ho, h2⟩ := mem_ready.1 hj
    rw [withEdge_get] at ho
    split at ho
    · cases hoj : ops[j]? with
      | none => rw [hoj] at ho; cases ho
      | some o' =>
        rw [hoj] at ho
        injection ho with ho
        subst ho
        exact mem_ready.2 ⟨h1, o', hoj, fun x hx hb => h2 x (Array.mem_push_of_mem _ hx) hb⟩
    · exact mem_ready.2 ⟨h1, o, ho, h2⟩
  have hsup : ∀ listed : Array Bool, (listed.getD m false = true → listed.getD e false = true) → ∀ j, j ∈ Region.ready .any ops listed → j ∈ Region.ready .any (withEdge ops k e) listed := fun listed hc j hj => by
    obtain ⟨h1, o, ho, h2⟩ := mem_ready.1 hj
    by_cases hjk : k = j
    · refine mem_ready.2 ⟨h1, moreAfter e o, by rw [withEdge_get, if_pos hjk, ho]; rfl, fun x hx hb => ?_⟩
      rcases Array.mem_push.1 hx with hx | hx
      · exact h2 x hx hb
      · subst hx; exact hc (waitsFor_listed hkm (hjk ▸ hj))
    · exact mem_ready.2 ⟨h1, o, by rw [withEdge_get, if_neg hjk]; exact ho, h2⟩
  have hnil : ∀ listed : Array Bool, (listed.getD m false = true → listed.getD e false = true) → Region.ready .any (withEdge ops k e) listed = [] → Region.ready .any ops listed = [] := fun listed hc h => by
    refine List.eq_nil_iff_forall_not_mem.2 fun j hj => ?_
    have := hsup listed hc j hj
    rw [h] at this; cases this
  have hnil' : ∀ listed : Array Bool, Region.ready .any ops listed = [] → Region.ready .any (withEdge ops k e) listed = [] := fun listed h => by
    refine List.eq_nil_iff_forall_not_mem.2 fun j hj => ?_
    have := hsub listed j hj
    rw [h] at this; cases this
  have hset : ∀ (listed : Array Bool) (i : Nat), i ∈ Region.ready .any ops listed → (listed.getD m false = true → listed.getD e false = true) → ((listed.setIfInBounds i true).getD m false = true → (listed.setIfInBounds i true).getD e false = true) := by
    intro listed i hi hc h
    have hmono : ∀ x, listed.getD x false = true → (listed.setIfInBounds i true).getD x false = true := by
      intro x hx
      simp only [Array.getD_eq_getD_getElem?, Array.getElem?_setIfInBounds] at hx ⊢
      by_cases hix : i = x
      · subst hix
        by_cases hs : i < listed.size
        · simp [hs]
        · simp [hs] at hx
      · simp only [hix, if_false]; exact hx
    by_cases him : i = m
    · subst him
      exact hmono e (waitsFor_listed hme hi)
    · refine hmono e (hc ?_)
      simpa only [Array.getD_eq_getD_getElem?, Array.getElem?_setIfInBounds, him, if_false] using h
  intro fuel
  induction fuel with
  | zero => intro listed a w hc H; exact ⟨hnil listed hc H.1, H.2⟩
  | succ fuel ih =>
    intro listed a w hc H
    refine ⟨fun h => H.1 (hnil' listed h), fun j hj => ?_⟩
    have h1 := H.2 j (hsup listed hc j hj)
    rw [wpOp_withEdge] at h1
    exact wpOp_mono (fun a' w' => ih _ a' w' (hset listed j hj hc)) h1
/-- A drawn region, with two edges more, each by way of another operation. -/
theorem wp_region_AT2 {id : Nat} {a : Act} {w : World} (k m e m2 e2 : Nat) (B : Nat) (S F : World → Prop) (late : Nat → Bool) (hm : P.follows .mixedOrders = true) (h1 : waitsFor ops k m = true) (h2 : waitsFor ops m e = true)
    (h3 : waitsFor (withEdge ops k e) k m2 = true) (h4 : waitsFor (withEdge ops k e) m2 e2 = true) (hw : waitsA (withEdge (withEdge ops k e) k e2) late = true) (hF : Fact B S F) (hFw : F w.drew)
    (h : Fact B S F → wpAnyA P (withEdge (withEdge ops k e) k e2) Q B S late (fun fuel listed a w => wpAny P .any (withEdge (withEdge ops k e) k e2) Q fuel listed a w) ops.size (Array.replicate ops.size false) a F) : (Code.region id ops true).wp P Q a w := by
  have h0 : ∀ x, (Array.replicate ops.size false).getD x false = false := fun x => by
    simp only [Array.getD_eq_getD_getElem?, Array.getElem?_replicate]
    split <;> rfl
  refine wp_region_any hm (wpAny_trans h1 h2 _ _ _ _ (fun h => ?_) (wpAny_trans h3 h4 _ _ _ _ (fun h => ?_) (wpAny_of_A (waitsA_spec hw) _ _ _ F _ (h hF) hFw)))
  · rw [h0] at h; cases h
  · rw [h0] at h; cases h
end
end Go

/- What the reading of an argument tells of its value. -/

/- What the reading of an argument tells of its value: slices of integers, and slices of these. -/
namespace Go
open RowKit ChangeShapes
section
variable {H : Type} {enc : TypeId × Value → H} {P : Program} {w : World} {held : Bool} {fuel : Nat} {t e q : TypeId} {cs : List Value} {x : DataW H × List MemPlace}
theorem addr_none {a : Addr} {v : Value} {w : World} (h : w.cell? (a.add 0) = some v) : ∃ b off, a = ⟨b, off, none⟩ ∧ b < w.heap.size := by
  obtain ⟨b, off, spot⟩ := a
  obtain rfl : spot = none := by
    have := World.cell?_spot h
    simpa [Addr.add] using this
  exact ⟨b, off, rfl, by have := World.block_lt_of_cell? w _ h; simpa [Addr.add] using this⟩
theorem add_none (b off j : Nat) : (⟨b, off, none⟩ : Addr).add j = ⟨b, off + j, none⟩ := by unfold Addr.add; split <;> simp_all
/-- A slice of integers. -/
theorem trod_reads {k : IntKind} (ht : P.underlying t = some (.slice e)) (he : P.underlying e = some (.int k)) (hc : P.cellsOf e = 1) (h : DataW.trod enc P w 0 (fun _ => true) held fuel t cs = some x) :
    ∃ (v : Value) (zs : List Int), cs = [v] ∧ w.reads w.heap.size v (zs.map (Value.int k)) ∧ ∀ z ∈ zs, (Lit.int k z).wf = true := by
  rcases open_ints ht he hc h with ⟨hcs, _⟩ | ⟨a, len, cap, zs, hcs, _, hl, hm, hz, _, hcell, hw⟩
  · exact ⟨_, [], hcs, reads_nil _ _, by simp⟩
  · simp only [if_true] at hz
    refine ⟨_, zs.take len, hcs, ⟨some a, cap, by simp; omega, by simp, by simp; omega, hm, fun j u hj => ?_⟩, fun z hz' => hw z (List.mem_of_mem_take hz')⟩
    have hj' : j < len ∧ j < zs.length := by
      have h1 := (List.getElem?_eq_some_iff.1 hj).1
      simp at h1; omega
    obtain ⟨b, off, rfl, hb⟩ := addr_none (hcell 0 (by omega))
    have hcj := hcell j hj'.2
    rw [add_none] at hcj
    refine ⟨b, off, rfl, hb, ?_⟩
    rw [hcj]
    simp [hj'.1, hj'.2] at hj ⊢
    exact hj
/-- A slice of slices of integers. -/
theorem trod_rows {k : IntKind} (ht : P.underlying t = some (.slice e)) (he : P.underlying e = some (.slice q)) (hq : P.underlying q = some (.int k)) (ce : P.cellsOf e = 1) (cq : P.cellsOf q = 1) (h : DataW.trod enc P w 0 (fun _ => true) held fuel t cs = some x) :
    ∃ (v : Value) (rs : List (List Int)), cs = [v] ∧ w.rows (Value.int k) w.heap.size v rs ∧ ∀ r ∈ rs, ∀ z ∈ r, (Lit.int k z).wf = true := by
  rcases Deep.open_int_rows ht he hq ce cq h with ⟨hcs, _⟩ | ⟨a, len, cap, A, L, C, Z, hcs, _, hl, hm, _, hrow⟩
  · exact ⟨_, [], hcs, ⟨[], rfl, reads_nil _ _, fun i r hr => by simp at hr⟩, by simp⟩
  · refine ⟨_, (List.range len).map fun r => (Z r).take (L r), hcs, ⟨(List.range len).map fun r => .slice (A r) (L r) (C r), by simp, ?_, fun i r hr => ?_⟩, fun r hr z hz => ?_⟩
    · refine ⟨some a, cap, by simp, by simp, by simpa using hl, hm, fun j u hj => ?_⟩
      have hj' : j < len := by
        have h1 := (List.getElem?_eq_some_iff.1 hj).1
        simpa using h1
      obtain ⟨hc0, -⟩ := hrow 0 (by omega)
      obtain ⟨hcj, -⟩ := hrow j (by omega)
      obtain ⟨b, off, rfl, hb⟩ := addr_none hc0
      rw [add_none] at hcj
      refine ⟨b, off, rfl, hb, ?_⟩
      rw [hcj]
      simpa [hj'] using hj
    · have hi : i < len := by
        have h1 := (List.getElem?_eq_some_iff.1 hr).1
        simpa using h1
      obtain ⟨-, h1, h2, h3, h4, h5, h6⟩ := hrow i (by omega)
      obtain rfl : r = (Z i).take (L i) := by simpa [hi] using hr.symm
      refine ⟨.slice (A i) (L i) (C i), by simp [hi], ?_⟩
      refine ⟨A i, C i, by simp; omega, h5, by simp; omega, h2, fun j u hj => ?_⟩
      have hj' : j < L i ∧ j < (Z i).length := by
        have h1 := (List.getElem?_eq_some_iff.1 hj).1
        simp at h1; omega
      obtain ⟨a', ha'⟩ : ∃ a', A i = some a' := by
        cases hA : A i with
        | none => have := h5 hA; omega
        | some a' => exact ⟨a', rfl⟩
      obtain ⟨-, h7⟩ := h6 a' ha'
      obtain ⟨b, off, rfl, hb⟩ := addr_none (h7 0 (by omega))
      have hcj := h7 j (by omega)
      rw [add_none] at hcj
      refine ⟨b, off, ha', hb, ?_⟩
      rw [hcj]
      simp [hj'.1, hj'.2] at hj ⊢
      exact hj
    · simp only [List.mem_map, List.mem_range] at hr
      obtain ⟨i, hi, rfl⟩ := hr
      obtain ⟨-, -, -, -, h4, -⟩ := hrow i (by omega)
      exact h4 z (List.mem_of_mem_take hz)
theorem nats_of : ∀ (zs : List Int), (∀ z ∈ zs, (Lit.int .u32 z).wf = true) → ∃ l : List Nat, zs = l.map Int.ofNat ∧ ∀ q ∈ l, q < 4294967296
  | [], _ => ⟨[], rfl, by simp⟩
  | z :: zs, h => by
    obtain ⟨l, rfl, hl⟩ := nats_of zs (fun y hy => h y (by simp [hy]))
    have hb := bounds_u32 (h z (by simp))
    refine ⟨z.toNat :: l, by simp; omega, fun q hq => ?_⟩
    rcases List.mem_cons.1 hq with rfl | hq
    · omega
    · exact hl q hq
theorem rows_nats_of : ∀ (zs : List (List Int)), (∀ r ∈ zs, ∀ z ∈ r, (Lit.int .u32 z).wf = true) → ∃ l : List (List Nat), zs = l.map (·.map Int.ofNat) ∧ ∀ r ∈ l, ∀ q ∈ r, q < 4294967296
  | [], _ => ⟨[], rfl, by simp⟩
  | r :: zs, h => by
    obtain ⟨l, rfl, hl⟩ := rows_nats_of zs (fun y hy => h y (by simp [hy]))
    obtain ⟨l1, rfl, h1⟩ := nats_of r (h r (by simp))
    refine ⟨l1 :: l, by simp, fun q hq => ?_⟩
    rcases List.mem_cons.1 hq with rfl | hq
    · exact h1
    · exact hl q hq
theorem trod_reads32 (ht : P.underlying t = some (.slice e)) (he : P.underlying e = some (.int .u32)) (hc : P.cellsOf e = 1) (h : DataW.trod enc P w 0 (fun _ => true) held fuel t cs = some x) :
    ∃ (v : Value) (l : List Nat), cs = [v] ∧ w.reads w.heap.size v (l.map u32V) ∧ ∀ q ∈ l, q < 4294967296 := by
  obtain ⟨v, zs, h1, h2, h3⟩ := trod_reads ht he hc h
  obtain ⟨l, rfl, hl⟩ := nats_of zs h3
  exact ⟨v, l, h1, by rw [List.map_map] at h2; exact h2, hl⟩
theorem trod_rows32 (ht : P.underlying t = some (.slice e)) (he : P.underlying e = some (.slice q)) (hq : P.underlying q = some (.int .u32)) (ce : P.cellsOf e = 1) (cq : P.cellsOf q = 1) (h : DataW.trod enc P w 0 (fun _ => true) held fuel t cs = some x) :
    ∃ (v : Value) (rs : List (List Nat)), cs = [v] ∧ w.rows u32V w.heap.size v rs ∧ ∀ r ∈ rs, ∀ q ∈ r, q < 4294967296 := by
  obtain ⟨v, zs, h1, ⟨vs, h2, h3, h4⟩, h5⟩ := trod_rows ht he hq ce cq h
  obtain ⟨l, rfl, hl⟩ := rows_nats_of zs h5
  refine ⟨v, l, h1, ⟨vs, by simpa using h2, h3, fun i r hr => ?_⟩, hl⟩
  obtain ⟨u, hu, hur⟩ := h4 i (r.map Int.ofNat) (by simp [hr])
  exact ⟨u, hu, by rw [List.map_map] at hur; exact hur⟩
/-- A field of a struct. -/
theorem trod_field {fs : Array Field} (ht : P.underlying t = some (.struct fs)) (h : DataW.trod enc P w 0 (fun _ => true) held fuel t cs = some x) (j : Nat) (f : Field) (hj : fs[j]? = some f) :
    ∃ n y, DataW.trod enc P w 0 (fun _ => true) held n f.type ((cs.drop f.offset).take (P.cellsOf f.type)) = some y := by
  obtain ⟨xs, m, rfl, hx, hl, hlen, hget⟩ := DataW.trod_struct ht h
  have hj' := (Array.getElem?_eq_some_iff.1 hj).1
  exact ⟨m, _, (hget j f hj).trans (List.getElem?_eq_getElem (by omega))⟩
end
end Go

/- What the reading of an argument tells of its value: parameters, elements, a case of the ring's laws. -/
namespace Go.Proofs.Ytkjlfjnncdkmlaa.G
set_option linter.all false
open Go.RowKit Go.WideShapes Go.ChangeShapes
theorem i64_bounds {z : Int} (h : (Lit.int .i64 z).wf = true) : -9223372036854775808 ≤ z ∧ z ≤ 9223372036854775807 := by
  have h2 : IntKind.i64.min ≤ z ∧ z ≤ IntKind.i64.max := by simpa [Lit.wf] using h
  have h3 : IntKind.i64.min = -9223372036854775808 := by decide
  have h4 : IntKind.i64.max = 9223372036854775807 := by decide
  omega
theorem i64_bounds_all {l : List Int} (h : ∀ z ∈ l, (Lit.int .i64 z).wf = true) : ∀ z ∈ l, -9223372036854775808 ≤ z ∧ z ≤ 9223372036854775807 := fun z hz => i64_bounds (h z hz)
set_option maxRecDepth 100000 in
theorem open_rcase {H : Type} {enc : TypeId × Value → H} {W : World} {base : Nat} {v : Value} {d : DataW H} {p : List MemPlace} (hv : Value.okWide Try.prog W .any base 31 v) (h : DataW.Trod enc Try.prog W 0 (fun _ => true) true 31 v d p) :
    ∃ c : RCase, v = .agg c.cells ∧ c.reads W.heap.size W ∧ (-9223372036854775808 ≤ c.num ∧ c.num ≤ 9223372036854775807) ∧ (-9223372036854775808 ≤ c.kk ∧ c.kk ≤ 9223372036854775807) ∧ (-9223372036854775808 ≤ c.level ∧ c.level ≤ 9223372036854775807) ∧ (∀ z ∈ c.ls, -9223372036854775808 ≤ z ∧ z ≤ 9223372036854775807) ∧ (∀ q ∈ c.chain, q < 4294967296) ∧ c.sp < 4294967296 ∧ (∀ r ∈ c.xs, ∀ q ∈ r, q < 4294967296) ∧ (∀ r ∈ c.ys, ∀ q ∈ r, q < 4294967296) ∧ (-9223372036854775808 ≤ c.N ∧ c.N ≤ 9223372036854775807) := by
  have c25 : Try.prog.cellsOf 25 = 7 := by kernel_rfl
  have c28 : Try.prog.cellsOf 28 = 3 := by kernel_rfl
  have c22 : Try.prog.cellsOf 22 = 1 := by kernel_rfl
  have c23 : Try.prog.cellsOf 23 = 1 := by kernel_rfl
  have c26 : Try.prog.cellsOf 26 = 1 := by kernel_rfl
  have c3 : Try.prog.cellsOf 3 = 1 := by kernel_rfl
  have c4 : Try.prog.cellsOf 4 = 1 := by kernel_rfl
  have c29 : Try.prog.cellsOf 29 = 1 := by kernel_rfl
  have c2 : Try.prog.cellsOf 2 = 1 := by kernel_rfl
  have c31 : Try.prog.cellsOf 31 = 18 := by kernel_rfl
  obtain ⟨cs, rfl, hsz⟩ := okWide_struct Try.underlying31 hv
  obtain ⟨fuel, hf⟩ := h
  have hl' : cs.toList.length = 18 := by rw [c31] at hsz; simpa using hsz
  obtain ⟨_, _, hP⟩ := trod_field Try.underlying31 hf 0 _ rfl
  obtain ⟨_, _, hA⟩ := trod_field Try.underlying31 hf 1 _ rfl
  obtain ⟨_, _, hB⟩ := trod_field Try.underlying31 hf 2 _ rfl
  obtain ⟨_, _, h3⟩ := trod_field Try.underlying31 hf 3 _ rfl
  obtain ⟨_, _, h4⟩ := trod_field Try.underlying31 hf 4 _ rfl
  obtain ⟨_, _, h5⟩ := trod_field Try.underlying31 hf 5 _ rfl
  obtain ⟨_, _, h6⟩ := trod_field Try.underlying31 hf 6 _ rfl
  obtain ⟨_, _, h7⟩ := trod_field Try.underlying31 hf 7 _ rfl
  obtain ⟨_, _, p0⟩ := trod_field Try.underlying25 hP 0 _ rfl
  obtain ⟨_, _, p1⟩ := trod_field Try.underlying25 hP 1 _ rfl
  obtain ⟨_, _, p2⟩ := trod_field Try.underlying25 hP 2 _ rfl
  obtain ⟨_, _, p3⟩ := trod_field Try.underlying25 hP 3 _ rfl
  obtain ⟨_, _, p4⟩ := trod_field Try.underlying25 hP 4 _ rfl
  obtain ⟨_, _, p5⟩ := trod_field Try.underlying25 hP 5 _ rfl
  obtain ⟨_, _, p6⟩ := trod_field Try.underlying25 hP 6 _ rfl
  obtain ⟨_, _, a0⟩ := trod_field Try.underlying28 hA 0 _ rfl
  obtain ⟨_, _, a1⟩ := trod_field Try.underlying28 hA 1 _ rfl
  obtain ⟨_, _, a2⟩ := trod_field Try.underlying28 hA 2 _ rfl
  obtain ⟨_, _, b0⟩ := trod_field Try.underlying28 hB 0 _ rfl
  obtain ⟨_, _, b1⟩ := trod_field Try.underlying28 hB 1 _ rfl
  obtain ⟨_, _, b2⟩ := trod_field Try.underlying28 hB 2 _ rfl
  obtain ⟨N, e0, -, w0⟩ := DataW.trod_int Try.underlying3 p0
  obtain ⟨pr, e1, -, -⟩ := DataW.trod_int Try.underlying22 p1
  obtain ⟨pw, e2, -, -⟩ := DataW.trod_int Try.underlying3 p2
  obtain ⟨cv, chain, e3, hchain, hcb⟩ := trod_reads32 Try.underlying23 Try.underlying22 c22 p3
  obtain ⟨sp, e4, -, w4⟩ := DataW.trod_int Try.underlying22 p4
  obtain ⟨wt, e5, -, -⟩ := DataW.trod_int Try.underlying3 p5
  obtain ⟨er, e6, -, -⟩ := DataW.trod_int Try.underlying22 p6
  obtain ⟨la, e7, -, -⟩ := DataW.trod_int Try.underlying3 a0
  obtain ⟨sa, e8, -⟩ := DataW.trod_bool Try.underlying4 a1
  obtain ⟨av, xs, e9, hxs, hxb⟩ := trod_rows32 Try.underlying26 Try.underlying23 Try.underlying22 c23 c22 a2
  obtain ⟨lb, e10, -, -⟩ := DataW.trod_int Try.underlying3 b0
  obtain ⟨sb, e11, -⟩ := DataW.trod_bool Try.underlying4 b1
  obtain ⟨bv, ys, e12, hys, hyb⟩ := trod_rows32 Try.underlying26 Try.underlying23 Try.underlying22 c23 c22 b2
  obtain ⟨num, e13, -, w13⟩ := DataW.trod_int Try.underlying2 h3
  obtain ⟨kk, e14, -, w14⟩ := DataW.trod_int Try.underlying3 h4
  obtain ⟨level, e15, -, w15⟩ := DataW.trod_int Try.underlying3 h5
  obtain ⟨special, e16, -⟩ := DataW.trod_bool Try.underlying4 h6
  obtain ⟨lw, ls, e17, hls, hlb⟩ := trod_reads Try.underlying29 Try.underlying2 c2 h7
  have hsp := bounds_u32 w4
  refine ⟨⟨N, pr, pw, wt, er, la, lb, num, kk, level, cv, av, bv, lw, sa, sb, special, chain, sp.toNat, xs, ys, ls⟩, ?_, ⟨hchain, hxs, hys, hls⟩, i64_bounds w13, i64_bounds w14, i64_bounds w15, i64_bounds_all hlb, hcb, by show sp.toNat < _; omega, hxb, hyb, i64_bounds w0⟩
  have hsn : ((sp.toNat : Nat) : Int) = sp := by omega
  unfold RCase.cells
  simp only [hsn]
  congr 1
  apply Array.ext'
  simp only [Value.cells] at e0 e1 e2 e3 e4 e5 e6 e7 e8 e9 e10 e11 e12 e13 e14 e15 e16 e17
  clear p0 p1 p2 p3 p4 p5 p6 a0 a1 a2 b0 b1 b2 h3 h4 h5 h6 h7 hP hA hB hf hv
  generalize cs.toList = l at *
  match l, hl' with
  | [k0, k1, k2, k3, k4, k5, k6, k7, k8, k9, k10, k11, k12, k13, k14, k15, k16, k17], _ =>
    simp [c25, c28, c22, c23, c26, c3, c4, c29, c2] at e0 e1 e2 e3 e4 e5 e6 e7 e8 e9 e10 e11 e12 e13 e14 e15 e16 e17
    simp [e0, e1, e2, e3, e4, e5, e6, e7, e8, e9, e10, e11, e12, e13, e14, e15, e16, e17]
end Go.Proofs.Ytkjlfjnncdkmlaa.G
