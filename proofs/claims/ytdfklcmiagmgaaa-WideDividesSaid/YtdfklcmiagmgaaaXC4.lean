/- Comparisons, negatives, absolute values and maxima: both. -/
import Derived.Test.YtdfklcmiagmgaaaXC3
import Derived.Test.YtdfklcmiagmgaaaXG3
namespace Go.Proofs.Ytdfklcmiagmgaaa
set_option linter.all false
open Go.RowKit Go.Shelf Go.WideNum
set_option maxRecDepth 100000 in
set_option maxHeartbeats 8000000 in
theorem refCmp_any (na : Bool) (sa : ByteArray) (nb : Bool) (sb : ByteArray) (hsa : sa.size ≤ maxLen) (hsb : sb.size ≤ maxLen) (R E : Int) (h : cmpF na sa nb sb = (R, E)) (w : World) :
    Calls Try.prog 42 #[.agg #[.bool na, .string sa], .agg #[.bool nb, .string sb]] w fun e w' => e = .returned (.tuple #[.int .i64 R, .int .i64 E]) ∧ Below w.heap.size w w' := by
  obtain ⟨HPOST, hpost⟩ : ∃ X : Ending → World → Prop, X = fun e w' => e = .returned (.tuple #[.int .i64 R, .int .i64 E]) ∧ Below w.heap.size w w' := ⟨_, rfl⟩
  rw [← hpost]
  have HP := Lib.hid hpost
  clear hpost
  obtain ⟨oka, hoka⟩ : ∃ ok, ok = validB na sa := ⟨_, rfl⟩
  obtain ⟨okb, hokb⟩ : ∃ ok, ok = validB nb sb := ⟨_, rfl⟩
  have HVA := Lib.hid (refValid_wide na sa hsa oka hoka)
  have HVB := Lib.hid (refValid_wide nb sb hsb okb hokb)
  unfold cmpF at h
  rw [← hoka, ← hokb] at h
  have HOA := Lib.hid hoka
  have HOB := Lib.hid hokb
  have HH := Lib.hid h
  clear hoka hokb h
  obtain ⟨W0, hW0⟩ : ∃ W0, W0 = (w.alloc (.cells #[.bool na, .string sa] 23)).alloc (.cells #[.bool nb, .string sb] 23) := ⟨_, rfl⟩
  have g0 : W0.heap[w.heap.size]? = some (.cells #[.bool na, .string sa] 23) := by rw [hW0, Below.heap_alloc _ _ _ (by simp)]; exact heap_alloc_new w _
  have g1 : W0.heap[w.heap.size + 1]? = some (.cells #[.bool nb, .string sb] 23) := by rw [hW0]; exact alloc_last _ _ (by simp)
  have hb0 : Below w.heap.size w W0 := by rw [hW0]; exact (((Below.refl _ w).alloc (Nat.le_refl _) _).alloc (by simp) _)
  have HB0 := Lib.hid hb0
  have hcx : Hid (∀ W, Below W0.heap.size W0 W → W.cell? ⟨w.heap.size, 0, none⟩ = some (.bool na) ∧ W.cell? ⟨w.heap.size, 1, none⟩ = some (.string sa) ∧ W.cell? ⟨w.heap.size + 1, 0, none⟩ = some (.bool nb) ∧ W.cell? ⟨w.heap.size + 1, 1, none⟩ = some (.string sb)) :=
    fun W hb => keep4 ((hb.block _ (lt_of_heap g0)).trans g0) ((hb.block _ (lt_of_heap g1)).trans g1)
  have HW0 := Lib.hid hW0
  clear hb0 g0 g1 hW0
  obtain ⟨c00, c01, c10, c11⟩ := hcx.out W0 (Below.refl _ W0)
  go_enter Try.func42, Try.ntmps42
  go_upto_region 1 with (fail)
  rw [← HW0.out]
  go_wp2_with fail
  (with_reducible refine (HVA.out _).mono ?_)
  rintro e w1 ⟨rfl, hb1⟩
  have HB1 := Lib.hid hb1
  clear c00 c01 c10 c11 hb1
  obtain ⟨c00, c01, c10, c11⟩ := hcx.out w1 HB1.out
  cases oka with
  | false =>
    obtain ⟨rfl, rfl⟩ : R = 0 ∧ E = 2 := by
      have h : ((0 : Int), (2 : Int)) = (R, E) := HH.out
      injection h with h1 h2
      exact ⟨h1.symm, h2.symm⟩
    have HBW := Lib.hid (HB0.out.trans (HB1.out.mono HB0.out.size))
    clear c00 c01 c10 c11
    go_wp2
    rw [HP.out]
    exact ⟨rfl, HBW.out⟩
  | true =>
    go_wp2_with fail
    (with_reducible refine (HVB.out _).mono ?_)
    rintro e w2 ⟨rfl, hb2⟩
    have HB2 := Lib.hid (below_via HB1.out hb2)
    clear c00 c01 c10 c11 hb2
    cases okb with
    | false =>
      obtain ⟨rfl, rfl⟩ : R = 0 ∧ E = 2 := by
        have h : ((0 : Int), (2 : Int)) = (R, E) := HH.out
        injection h with h1 h2
        exact ⟨h1.symm, h2.symm⟩
      have HBW := Lib.hid (HB0.out.trans (HB2.out.mono HB0.out.size))
      go_wp2
      rw [HP.out]
      exact ⟨rfl, HBW.out⟩
    | true =>
      obtain ⟨l1, -, -, -⟩ := valid_spec na sa HOA.out.symm
      obtain ⟨l2, -, -, -⟩ := valid_spec nb sb HOB.out.symm
      have HINA := Lib.hid (in_any na sa HOA.out.symm)
      have HINB := Lib.hid (in_any nb sb HOB.out.symm)
      have hwa := hw_len129 l1
      have hwb := hw_len129 l2
      obtain ⟨rfl, rfl⟩ : R = cmpZ (zV na sa) (zV nb sb) ∧ E = 0 := by
        have h : (cmpZ (zV na sa) (zV nb sb), (0 : Int)) = (R, E) := by have h := HH.out; simpa using h
        injection h with h1 h2
        exact ⟨h1.symm, h2.symm⟩
      unfold zV at HP
      obtain ⟨A, eA⟩ : ∃ A, A = numB sa := ⟨_, rfl⟩
      obtain ⟨C, eC⟩ : ∃ C, C = numB sb := ⟨_, rfl⟩
      rw [← eA] at HP hwa HINA
      rw [← eC] at HP hwb HINB
      have HCM : Hid (∀ W va vb, World.numH W va A → World.numH W vb C → Calls Try.prog 73 #[.agg #[.bool na, va], .agg #[.bool nb, vb]] W fun e w' => e = .returned (.int .i64 (cmpZ (zOf na A) (zOf nb C))) ∧ Below W.heap.size W w') := fun W va vb h1 h2 => hcompare_any na A va nb C vb W h1 h2 (by omega) (by omega)
      obtain ⟨R, hR⟩ : ∃ R, R = cmpZ (zOf na A) (zOf nb C) := ⟨_, rfl⟩
      rw [← hR] at HCM HP
      clear eA eC l1 l2 hwa hwb hR HH
      obtain ⟨c00, c01, c10, c11⟩ := hcx.out w2 HB2.out
      go_wp2_with fail
      refine wp_region_late (fun w' => w'.cell? ⟨w.heap.size, 0, none⟩ = some (.bool na) ∧ w'.cell? ⟨w.heap.size, 1, none⟩ = some (.string sa) ∧ w'.cell? ⟨w.heap.size + 1, 0, none⟩ = some (.bool nb) ∧ w'.cell? ⟨w.heap.size + 1, 1, none⟩ = some (.string sb)) (fun _ => false) (by kernel_rfl) ⟨c00, c01, c10, c11⟩ (fun hHeld => ?_)
      refine wpAnyD_take 0 (v := ?_) (by kernel_rfl) (by kernel_rfl) rfl (by kernel_rfl) (by kernel_rfl) (fun _ _ _ h => h) (Or.inl ⟨by rfl, ?_⟩) (by assumption) ?_
      rotate_left
      · (intro wq hSq; (try dsimp only at hSq); go_simp; try with_reducible rfl)
      try simp only [Act.put, List.setIfInBounds_toArray, List.set_cons_zero, List.set_cons_succ]
      refine wpAnyD_take 2 (v := ?_) (by kernel_rfl) (by kernel_rfl) rfl (by kernel_rfl) (by kernel_rfl) (fun _ _ _ h => h) (Or.inl ⟨by rfl, ?_⟩) (by assumption) ?_
      rotate_left
      · (intro wq hSq; (try dsimp only at hSq); go_simp; try with_reducible rfl)
      try simp only [Act.put, List.setIfInBounds_toArray, List.set_cons_zero, List.set_cons_succ]
      clear c00 c01 c10 c11
      refine wpAnyD_keep 1 (by kernel_rfl) rfl (fun K hK => ?_)
      go_simp
      go_at_call 60
      (with_reducible refine (HINA.out _).mono ?_)
      rintro e u1 ⟨vu1, rfl, hnu1, hbu⟩
      obtain ⟨au1, Lu1, cu1, eu1⟩ : ∃ a L c, vu1 = .slice a L c := by obtain ⟨x, y, h⟩ := reads_len hnu1; exact ⟨x, _, y, h⟩
      subst eu1
      have HNu1 := Lib.hid hnu1
      have HB3 := Lib.hid (below_viaD HB2.out hbu)
      refine hK.out _ _ (hcx.out _ HB3.out) (fun hHeld1 => ?_)
      clear hbu hnu1 hK K hHeld
      try simp only [Act.put, List.setIfInBounds_toArray, List.set_cons_zero, List.set_cons_succ]
      refine wpAnyD_keep 3 (by kernel_rfl) rfl (fun K hK => ?_)
      go_simp
      go_at_call 60
      (with_reducible refine (HINB.out _).mono ?_)
      rintro e u2 ⟨vu2, rfl, hnu2, hbu⟩
      obtain ⟨au2, Lu2, cu2, eu2⟩ : ∃ a L c, vu2 = .slice a L c := by obtain ⟨x, y, h⟩ := reads_len hnu2; exact ⟨x, _, y, h⟩
      subst eu2
      have HNu2 := Lib.hid hnu2
      have HB4 := Lib.hid (below_via HB3.out hbu)
      have HNA2 := Lib.hid (numH_below HNu1.out hbu)
      refine hK.out _ _ (hcx.out _ HB4.out) (fun hHeld2 => ?_)
      clear hbu hnu2 hK K hHeld1
      try simp only [Act.put, List.setIfInBounds_toArray, List.set_cons_zero, List.set_cons_succ]
      refine wpAnyD_keep 4 (by kernel_rfl) rfl (fun K hK => ?_)
      go_simp
      go_at_call 73
      (with_reducible refine (HCM.out _ _ _ HNA2.out HNu2.out).mono ?_)
      rintro e u3 ⟨rfl, hbu⟩
      have HB5 := Lib.hid (below_via HB4.out hbu)
      refine hK.out _ _ (hcx.out _ HB5.out) (fun hHeld3 => ?_)
      clear hbu hK K hHeld2
      try simp only [Act.put, List.setIfInBounds_toArray, List.set_cons_zero, List.set_cons_succ]
      refine wpAnyD_takeW 5 (v := ?_) (by kernel_rfl) rfl (by kernel_rfl) (by kernel_rfl) (fun _ _ _ h => h) (Or.inl ⟨by rfl, ?_⟩) ?_
      rotate_left
      · (intro wq hSq; (try dsimp only at hSq); go_simp; try with_reducible rfl)
      try simp only [Act.put, List.setIfInBounds_toArray, List.set_cons_zero, List.set_cons_succ]
      refine wpAnyD_takeW 6 (v := ?_) (by kernel_rfl) rfl (by kernel_rfl) (by kernel_rfl) (fun _ _ _ h => h) (Or.inl ⟨by rfl, ?_⟩) ?_
      rotate_left
      · (intro wq hSq; (try dsimp only at hSq); go_simp; try with_reducible rfl)
      try simp only [Act.put, List.setIfInBounds_toArray, List.set_cons_zero, List.set_cons_succ]
      refine wpAnyD_end (by kernel_rfl) ?_
      have HBW := Lib.hid (HB0.out.trans (HB5.out.mono HB0.out.size))
      go_wp2
      rw [HP.out]
      exact ⟨rfl, HBW.out⟩
/-- What Neg and Abs answer. -/
def negF (neg : Bool) (s : ByteArray) : Bool × ByteArray × Int := if validB neg s then (!neg && decide (s.size ≠ 0), s, 0) else (false, ⟨#[]⟩, 2)
def absF (neg : Bool) (s : ByteArray) : Bool × ByteArray × Int := if validB neg s then (false, s, 0) else (false, ⟨#[]⟩, 2)
theorem neg_out (neg : Bool) (s : ByteArray) (hv : validB neg s = true) (S : Bool) (hS : S = (!neg && decide (numB s ≠ 0))) : outZ (zOf S (numB s)) = .agg #[.bool (!neg && decide (s.size ≠ 0)), .string s] ∧ errZ (zOf S (numB s)) = 0 := by
  obtain ⟨h1, h2, h3, h4⟩ := valid_spec neg s hv
  have hl : (words 256 (numB s)).length = s.size := by
    rw [← magL_length]
    conv => rhs; rw [← h2]
    rfl
  have h0 := words_len0 (B := 256) (by omega) (numB s)
  rw [hl] at h0
  rw [← outB_z, ← outE_z]
  unfold outB outE
  rw [if_pos h1, if_pos h1, h2, hS]
  refine ⟨?_, rfl⟩
  unfold wideV
  congr 4
  by_cases h : numB s = 0
  · have := h0.2 h
    simp [h, this]
  · have : s.size ≠ 0 := fun hh => h (h0.1 hh)
    simp [h, this]
set_option maxRecDepth 100000 in
set_option maxHeartbeats 8000000 in
theorem Neg_any (neg : Bool) (s : ByteArray) (hs : s.size ≤ maxLen) (fb : Bool) (ft : ByteArray) (E : Int) (h : negF neg s = (fb, ft, E)) (w : World) :
    Calls Try.prog 43 #[.agg #[.bool neg, .string s]] w fun e w' => e = .returned (.tuple #[.agg #[.bool fb, .string ft], .int .i64 E]) ∧ Below w.heap.size w w' := by
  obtain ⟨HPOST, hpost⟩ : ∃ X : Ending → World → Prop, X = fun e w' => e = .returned (.tuple #[.agg #[.bool fb, .string ft], .int .i64 E]) ∧ Below w.heap.size w w' := ⟨_, rfl⟩
  rw [← hpost]
  have HP := Lib.hid hpost
  clear hpost
  have hs63 : s.size ≤ 9223372036854775807 := hs
  obtain ⟨ok, hok⟩ : ∃ ok, ok = validB neg s := ⟨_, rfl⟩
  have HV : Hid (∀ W : World, Calls Try.prog 16 #[.agg #[.bool neg, .string s]] W fun e w' => e = .returned (.bool ok) ∧ Below W.heap.size W w') := fun W => by rw [hok]; exact Valid_wide neg s hs W
  unfold negF at h
  rw [← hok] at h
  have HOK := Lib.hid hok
  have HH := Lib.hid h
  clear hok h
  obtain ⟨W0, hW0⟩ : ∃ W0, W0 = (w.alloc (.cells #[.bool neg, .string s] 23)).alloc (.cells #[.bool false, .string ⟨#[]⟩] 23) := ⟨_, rfl⟩
  have g0 : W0.heap[w.heap.size]? = some (.cells #[.bool neg, .string s] 23) := by rw [hW0, Below.heap_alloc _ _ _ (by simp)]; exact heap_alloc_new w _
  have g1 : W0.heap[w.heap.size + 1]? = some (.cells #[.bool false, .string ⟨#[]⟩] 23) := by rw [hW0]; exact alloc_last _ _ (by simp)
  have hb0 : Below w.heap.size w W0 := by rw [hW0]; exact (((Below.refl _ w).alloc (Nat.le_refl _) _).alloc (by simp) _)
  have HB0 := Lib.hid hb0
  have HG0 := Lib.hid g0
  have HG1 := Lib.hid g1
  have HW0 := Lib.hid hW0
  obtain ⟨c0, c1, f0⟩ := wide_cells g0
  clear hb0 g0 g1 hW0
  go_enter Try.func43, Try.ntmps43
  go_upto_region 1 with (fail)
  rw [← HW0.out]
  go_wp2_with fail
  (with_reducible refine (HV.out _).mono ?_)
  rintro e w1 ⟨rfl, hb1⟩
  have HK0 := Lib.hid (wide_hold (w := W0) HG0.out hb1)
  have HK1 := Lib.hid (wide_hold (w := W0) HG1.out hb1)
  have HB1 := Lib.hid (HB0.out.trans (hb1.mono HB0.out.size))
  clear c0 c1 f0 hb1
  obtain ⟨c0, c1, f0⟩ := wide_cells HK0.out
  obtain ⟨d0, d1, f1⟩ := wide_cells HK1.out
  cases ok with
  | false =>
    obtain ⟨rfl, rfl, rfl⟩ : fb = false ∧ ft = ⟨#[]⟩ ∧ E = 2 := by
      have h : (false, (⟨#[]⟩ : ByteArray), (2 : Int)) = (fb, ft, E) := HH.out
      injection h with h1 h2
      injection h2 with h2 h3
      exact ⟨h1.symm, h2.symm, h3.symm⟩
    clear HH c0 c1 f0
    go_wp2
    have m2 := wide_set HK1.out false ⟨#[]⟩
    have hb9 := below_set2 (p := w.heap.size + 1) HB1.out (by omega) false ⟨#[]⟩
    clear d0 d1 f1
    obtain ⟨d20, d21, -⟩ := wide_cells m2
    clear m2
    generalize (w1.setCell ⟨w.heap.size + 1, 0, none⟩ (.bool false)).setCell ⟨w.heap.size + 1, 1, none⟩ (.string ⟨#[]⟩) = W9 at d20 d21 hb9 ⊢
    rw [HP.out]
    exact bodyPost_ret (v := .tuple #[.agg #[.bool false, .string ⟨#[]⟩], .int .i64 2]) (by simp [results, Try.results43, go_sem, d20, d21]) rfl ⟨rfl, hb9⟩
  | true =>
    have hfin : fb = (!neg && decide (s.size ≠ 0)) ∧ s = ft ∧ E = 0 := by
      have h : (!neg && decide (s.size ≠ 0), s, (0 : Int)) = (fb, ft, E) := by have h := HH.out; simpa using h
      injection h with h1 h2
      injection h2 with h2 h3
      exact ⟨h1.symm, h2, h3.symm⟩
    obtain ⟨hfb, hft, rfl⟩ := hfin
    subst hft
    obtain ⟨q0, q1⟩ : Hid ((w1.setCell ⟨w.heap.size, 0, none⟩ (.bool fb)).heap[w.heap.size]? = some (.cells #[.bool fb, .string s] 23)) ∧ Hid ((w1.setCell ⟨w.heap.size, 0, none⟩ (.bool fb)).heap[w.heap.size + 1]? = some (.cells #[.bool false, .string ⟨#[]⟩] 23)) := ⟨num_set0 HK0.out _, (cell_other (by omega) _).trans HK1.out⟩
    have HBS : Hid (Below w.heap.size w (w1.setCell ⟨w.heap.size, 0, none⟩ (.bool fb))) := HB1.out.setCell (by simp) _
    clear HH
    by_cases h0 : s.size = 0
    · have hse := str_empty s h0
      have hfb0 : fb = false := by rw [hfb, h0]; simp
      subst hse hfb0
      clear hfb h0
      cases neg with
      | true =>
        go_wp2
        have HG := q1
        generalize w1.setCell ⟨w.heap.size, 0, none⟩ (.bool false) = w2 at q0 HG HBS ⊢
        have m2 := wide_set HG.out false ⟨#[]⟩
        have hb9 := below_set2 (p := w.heap.size + 1) HBS.out (by omega) false ⟨#[]⟩
        clear d0 d1 f1
        obtain ⟨d20, d21, -⟩ := wide_cells m2
        clear m2
        generalize (w2.setCell ⟨w.heap.size + 1, 0, none⟩ (.bool false)).setCell ⟨w.heap.size + 1, 1, none⟩ (.string ⟨#[]⟩) = W9 at d20 d21 hb9 ⊢
        rw [HP.out]
        exact bodyPost_ret (v := .tuple #[.agg #[.bool false, .string ⟨#[]⟩], .int .i64 0]) (by simp [results, Try.results43, go_sem, d20, d21]) rfl ⟨rfl, hb9⟩
      | false =>
        go_wp2
        have HG := q1
        generalize w1.setCell ⟨w.heap.size, 0, none⟩ (.bool false) = w2 at q0 HG HBS ⊢
        have m2 := wide_set HG.out false ⟨#[]⟩
        have hb9 := below_set2 (p := w.heap.size + 1) HBS.out (by omega) false ⟨#[]⟩
        clear d0 d1 f1
        obtain ⟨d20, d21, -⟩ := wide_cells m2
        clear m2
        generalize (w2.setCell ⟨w.heap.size + 1, 0, none⟩ (.bool false)).setCell ⟨w.heap.size + 1, 1, none⟩ (.string ⟨#[]⟩) = W9 at d20 d21 hb9 ⊢
        rw [HP.out]
        exact bodyPost_ret (v := .tuple #[.agg #[.bool false, .string ⟨#[]⟩], .int .i64 0]) (by simp [results, Try.results43, go_sem, d20, d21]) rfl ⟨rfl, hb9⟩
    · obtain ⟨s1, s2⟩ := str_facts s h0
      cases neg with
      | true =>
        have hfb0 : fb = false := by rw [hfb]; rfl
        subst hfb0
        clear hfb h0
        go_wp2
        have HG := q1
        generalize w1.setCell ⟨w.heap.size, 0, none⟩ (.bool false) = w2 at q0 HG HBS ⊢
        have m2 := wide_set HG.out false s
        have hb9 := below_set2 (p := w.heap.size + 1) HBS.out (by omega) false s
        clear d0 d1 f1
        obtain ⟨d20, d21, -⟩ := wide_cells m2
        clear m2
        generalize (w2.setCell ⟨w.heap.size + 1, 0, none⟩ (.bool false)).setCell ⟨w.heap.size + 1, 1, none⟩ (.string s) = W9 at d20 d21 hb9 ⊢
        rw [HP.out]
        exact bodyPost_ret (v := .tuple #[.agg #[.bool false, .string s], .int .i64 0]) (by simp [results, Try.results43, go_sem, d20, d21]) rfl ⟨rfl, hb9⟩
      | false =>
        have hfb0 : fb = true := by rw [hfb]; simp [h0]
        subst hfb0
        clear hfb h0
        go_wp2
        have HG := q1
        generalize w1.setCell ⟨w.heap.size, 0, none⟩ (.bool true) = w2 at q0 HG HBS ⊢
        have m2 := wide_set HG.out true s
        have hb9 := below_set2 (p := w.heap.size + 1) HBS.out (by omega) true s
        clear d0 d1 f1
        obtain ⟨d20, d21, -⟩ := wide_cells m2
        clear m2
        generalize (w2.setCell ⟨w.heap.size + 1, 0, none⟩ (.bool true)).setCell ⟨w.heap.size + 1, 1, none⟩ (.string s) = W9 at d20 d21 hb9 ⊢
        rw [HP.out]
        exact bodyPost_ret (v := .tuple #[.agg #[.bool true, .string s], .int .i64 0]) (by simp [results, Try.results43, go_sem, d20, d21]) rfl ⟨rfl, hb9⟩
set_option maxRecDepth 100000 in
set_option maxHeartbeats 8000000 in
theorem Abs_any (neg : Bool) (s : ByteArray) (hs : s.size ≤ maxLen) (fb : Bool) (ft : ByteArray) (E : Int) (h : absF neg s = (fb, ft, E)) (w : World) :
    Calls Try.prog 45 #[.agg #[.bool neg, .string s]] w fun e w' => e = .returned (.tuple #[.agg #[.bool fb, .string ft], .int .i64 E]) ∧ Below w.heap.size w w' := by
  obtain ⟨HPOST, hpost⟩ : ∃ X : Ending → World → Prop, X = fun e w' => e = .returned (.tuple #[.agg #[.bool fb, .string ft], .int .i64 E]) ∧ Below w.heap.size w w' := ⟨_, rfl⟩
  rw [← hpost]
  have HP := Lib.hid hpost
  clear hpost
  have hs63 : s.size ≤ 9223372036854775807 := hs
  obtain ⟨ok, hok⟩ : ∃ ok, ok = validB neg s := ⟨_, rfl⟩
  have HV : Hid (∀ W : World, Calls Try.prog 16 #[.agg #[.bool neg, .string s]] W fun e w' => e = .returned (.bool ok) ∧ Below W.heap.size W w') := fun W => by rw [hok]; exact Valid_wide neg s hs W
  unfold absF at h
  rw [← hok] at h
  have HOK := Lib.hid hok
  have HH := Lib.hid h
  clear hok h
  obtain ⟨W0, hW0⟩ : ∃ W0, W0 = (w.alloc (.cells #[.bool neg, .string s] 23)).alloc (.cells #[.bool false, .string ⟨#[]⟩] 23) := ⟨_, rfl⟩
  have g0 : W0.heap[w.heap.size]? = some (.cells #[.bool neg, .string s] 23) := by rw [hW0, Below.heap_alloc _ _ _ (by simp)]; exact heap_alloc_new w _
  have g1 : W0.heap[w.heap.size + 1]? = some (.cells #[.bool false, .string ⟨#[]⟩] 23) := by rw [hW0]; exact alloc_last _ _ (by simp)
  have hb0 : Below w.heap.size w W0 := by rw [hW0]; exact (((Below.refl _ w).alloc (Nat.le_refl _) _).alloc (by simp) _)
  have HB0 := Lib.hid hb0
  have HG0 := Lib.hid g0
  have HG1 := Lib.hid g1
  have HW0 := Lib.hid hW0
  obtain ⟨c0, c1, f0⟩ := wide_cells g0
  clear hb0 g0 g1 hW0
  go_enter Try.func45, Try.ntmps45
  go_upto_region 1 with (fail)
  rw [← HW0.out]
  go_wp2_with fail
  (with_reducible refine (HV.out _).mono ?_)
  rintro e w1 ⟨rfl, hb1⟩
  have HK0 := Lib.hid (wide_hold (w := W0) HG0.out hb1)
  have HK1 := Lib.hid (wide_hold (w := W0) HG1.out hb1)
  have HB1 := Lib.hid (HB0.out.trans (hb1.mono HB0.out.size))
  clear c0 c1 f0 hb1
  obtain ⟨c0, c1, f0⟩ := wide_cells HK0.out
  obtain ⟨d0, d1, f1⟩ := wide_cells HK1.out
  cases ok with
  | false =>
    obtain ⟨rfl, rfl, rfl⟩ : fb = false ∧ ft = ⟨#[]⟩ ∧ E = 2 := by
      have h : (false, (⟨#[]⟩ : ByteArray), (2 : Int)) = (fb, ft, E) := HH.out
      injection h with h1 h2
      injection h2 with h2 h3
      exact ⟨h1.symm, h2.symm, h3.symm⟩
    clear HH c0 c1 f0
    go_wp2
    have m2 := wide_set HK1.out false ⟨#[]⟩
    have hb9 := below_set2 (p := w.heap.size + 1) HB1.out (by omega) false ⟨#[]⟩
    clear d0 d1 f1
    obtain ⟨d20, d21, -⟩ := wide_cells m2
    clear m2
    generalize (w1.setCell ⟨w.heap.size + 1, 0, none⟩ (.bool false)).setCell ⟨w.heap.size + 1, 1, none⟩ (.string ⟨#[]⟩) = W9 at d20 d21 hb9 ⊢
    rw [HP.out]
    exact bodyPost_ret (v := .tuple #[.agg #[.bool false, .string ⟨#[]⟩], .int .i64 2]) (by simp [results, Try.results45, go_sem, d20, d21]) rfl ⟨rfl, hb9⟩
  | true =>
    obtain ⟨rfl, rfl, rfl⟩ : fb = false ∧ ft = s ∧ E = 0 := by
      have h : (false, s, (0 : Int)) = (fb, ft, E) := by have h := HH.out; simpa using h
      injection h with h1 h2
      injection h2 with h2 h3
      exact ⟨h1.symm, h2.symm, h3.symm⟩
    have q1 : Hid ((w1.setCell ⟨w.heap.size, 0, none⟩ (.bool false)).heap[w.heap.size + 1]? = some (.cells #[.bool false, .string ⟨#[]⟩] 23)) := (cell_other (by omega) _).trans HK1.out
    have HBS : Hid (Below w.heap.size w (w1.setCell ⟨w.heap.size, 0, none⟩ (.bool false))) := HB1.out.setCell (by simp) _
    clear HH
    go_wp2
    generalize w1.setCell ⟨w.heap.size, 0, none⟩ (.bool false) = w2 at q1 HBS ⊢
    have m2 := wide_set q1.out false ft
    have hb9 := below_set2 (p := w.heap.size + 1) HBS.out (by omega) false ft
    clear d0 d1 f1
    obtain ⟨d20, d21, -⟩ := wide_cells m2
    clear m2
    generalize (w2.setCell ⟨w.heap.size + 1, 0, none⟩ (.bool false)).setCell ⟨w.heap.size + 1, 1, none⟩ (.string ft) = W9 at d20 d21 hb9 ⊢
    rw [HP.out]
    exact bodyPost_ret (v := .tuple #[.agg #[.bool false, .string ft], .int .i64 0]) (by simp [results, Try.results45, go_sem, d20, d21]) rfl ⟨rfl, hb9⟩
set_option maxRecDepth 100000 in
set_option maxHeartbeats 8000000 in
theorem refAbs_any (neg : Bool) (s : ByteArray) (hs : s.size ≤ maxLen) (fb : Bool) (ft : ByteArray) (E : Int) (h : absF neg s = (fb, ft, E)) (w : World) :
    Calls Try.prog 46 #[.agg #[.bool neg, .string s]] w fun e w' => e = .returned (.tuple #[.agg #[.bool fb, .string ft], .int .i64 E]) ∧ Below w.heap.size w w' := by
  obtain ⟨HPOST, hpost⟩ : ∃ X : Ending → World → Prop, X = fun e w' => e = .returned (.tuple #[.agg #[.bool fb, .string ft], .int .i64 E]) ∧ Below w.heap.size w w' := ⟨_, rfl⟩
  rw [← hpost]
  have HP := Lib.hid hpost
  clear hpost
  have hs63 : s.size ≤ 9223372036854775807 := hs
  obtain ⟨ok, hok⟩ : ∃ ok, ok = validB neg s := ⟨_, rfl⟩
  have HV : Hid (∀ W : World, Calls Try.prog 21 #[.agg #[.bool neg, .string s]] W fun e w' => e = .returned (.bool ok) ∧ Below W.heap.size W w') := fun W => by rw [hok]; exact refValid_wide neg s hs _ rfl W
  unfold absF at h
  rw [← hok] at h
  have HOK := Lib.hid hok
  have HH := Lib.hid h
  clear hok h
  obtain ⟨W0, hW0⟩ : ∃ W0, W0 = (w.alloc (.cells #[.bool neg, .string s] 23)).alloc (.cells #[.bool false, .string ⟨#[]⟩] 23) := ⟨_, rfl⟩
  have g0 : W0.heap[w.heap.size]? = some (.cells #[.bool neg, .string s] 23) := by rw [hW0, Below.heap_alloc _ _ _ (by simp)]; exact heap_alloc_new w _
  have g1 : W0.heap[w.heap.size + 1]? = some (.cells #[.bool false, .string ⟨#[]⟩] 23) := by rw [hW0]; exact alloc_last _ _ (by simp)
  have hb0 : Below w.heap.size w W0 := by rw [hW0]; exact (((Below.refl _ w).alloc (Nat.le_refl _) _).alloc (by simp) _)
  have HB0 := Lib.hid hb0
  have HG0 := Lib.hid g0
  have HG1 := Lib.hid g1
  have HW0 := Lib.hid hW0
  obtain ⟨c0, c1, f0⟩ := wide_cells g0
  clear hb0 g0 g1 hW0
  go_enter Try.func46, Try.ntmps46
  go_upto_region 1 with (fail)
  rw [← HW0.out]
  go_wp2_with fail
  (with_reducible refine (HV.out _).mono ?_)
  rintro e w1 ⟨rfl, hb1⟩
  have HK0 := Lib.hid (wide_hold (w := W0) HG0.out hb1)
  have HK1 := Lib.hid (wide_hold (w := W0) HG1.out hb1)
  have HB1 := Lib.hid (HB0.out.trans (hb1.mono HB0.out.size))
  clear c0 c1 f0 hb1
  obtain ⟨c0, c1, f0⟩ := wide_cells HK0.out
  obtain ⟨d0, d1, f1⟩ := wide_cells HK1.out
  cases ok with
  | false =>
    obtain ⟨rfl, rfl, rfl⟩ : fb = false ∧ ft = ⟨#[]⟩ ∧ E = 2 := by
      have h : (false, (⟨#[]⟩ : ByteArray), (2 : Int)) = (fb, ft, E) := HH.out
      injection h with h1 h2
      injection h2 with h2 h3
      exact ⟨h1.symm, h2.symm, h3.symm⟩
    clear HH c0 c1 f0
    go_wp2
    have m2 := wide_set HK1.out false ⟨#[]⟩
    have hb9 := below_set2 (p := w.heap.size + 1) HB1.out (by omega) false ⟨#[]⟩
    clear d0 d1 f1
    obtain ⟨d20, d21, -⟩ := wide_cells m2
    clear m2
    generalize (w1.setCell ⟨w.heap.size + 1, 0, none⟩ (.bool false)).setCell ⟨w.heap.size + 1, 1, none⟩ (.string ⟨#[]⟩) = W9 at d20 d21 hb9 ⊢
    rw [HP.out]
    exact bodyPost_ret (v := .tuple #[.agg #[.bool false, .string ⟨#[]⟩], .int .i64 2]) (by simp [results, Try.results46, go_sem, d20, d21]) rfl ⟨rfl, hb9⟩
  | true =>
    obtain ⟨rfl, rfl, rfl⟩ : fb = false ∧ ft = s ∧ E = 0 := by
      have h : (false, s, (0 : Int)) = (fb, ft, E) := by have h := HH.out; simpa using h
      injection h with h1 h2
      injection h2 with h2 h3
      exact ⟨h1.symm, h2.symm, h3.symm⟩
    clear HH
    go_wp2
    have m2 := wide_set HK1.out false ft
    have hb9 := below_set2 (p := w.heap.size + 1) HB1.out (by omega) false ft
    clear d0 d1 f1
    obtain ⟨d20, d21, -⟩ := wide_cells m2
    clear m2
    generalize (w1.setCell ⟨w.heap.size + 1, 0, none⟩ (.bool false)).setCell ⟨w.heap.size + 1, 1, none⟩ (.string ft) = W9 at d20 d21 hb9 ⊢
    rw [HP.out]
    exact bodyPost_ret (v := .tuple #[.agg #[.bool false, .string ft], .int .i64 0]) (by simp [results, Try.results46, go_sem, d20, d21]) rfl ⟨rfl, hb9⟩
set_option maxRecDepth 100000 in
set_option maxHeartbeats 8000000 in
theorem refNeg_any (neg : Bool) (s : ByteArray) (hs : s.size ≤ maxLen) (fb : Bool) (ft : ByteArray) (E : Int) (h : negF neg s = (fb, ft, E)) (w : World) :
    Calls Try.prog 44 #[.agg #[.bool neg, .string s]] w fun e w' => e = .returned (.tuple #[.agg #[.bool fb, .string ft], .int .i64 E]) ∧ Below w.heap.size w w' := by
  obtain ⟨HPOST, hpost⟩ : ∃ X : Ending → World → Prop, X = fun e w' => e = .returned (.tuple #[.agg #[.bool fb, .string ft], .int .i64 E]) ∧ Below w.heap.size w w' := ⟨_, rfl⟩
  rw [← hpost]
  have HP := Lib.hid hpost
  clear hpost
  have hs63 : s.size ≤ 9223372036854775807 := hs
  obtain ⟨ok, hok⟩ : ∃ ok, ok = validB neg s := ⟨_, rfl⟩
  have HV : Hid (∀ W : World, Calls Try.prog 21 #[.agg #[.bool neg, .string s]] W fun e w' => e = .returned (.bool ok) ∧ Below W.heap.size W w') := fun W => by rw [hok]; exact refValid_wide neg s hs _ rfl W
  unfold negF at h
  rw [← hok] at h
  have HOK := Lib.hid hok
  have HH := Lib.hid h
  clear hok h
  obtain ⟨W0, hW0⟩ : ∃ W0, W0 = (w.alloc (.cells #[.bool neg, .string s] 23)).alloc (.cells #[.bool false, .string ⟨#[]⟩] 23) := ⟨_, rfl⟩
  have g0 : W0.heap[w.heap.size]? = some (.cells #[.bool neg, .string s] 23) := by rw [hW0, Below.heap_alloc _ _ _ (by simp)]; exact heap_alloc_new w _
  have g1 : W0.heap[w.heap.size + 1]? = some (.cells #[.bool false, .string ⟨#[]⟩] 23) := by rw [hW0]; exact alloc_last _ _ (by simp)
  have hb0 : Below w.heap.size w W0 := by rw [hW0]; exact (((Below.refl _ w).alloc (Nat.le_refl _) _).alloc (by simp) _)
  have HB0 := Lib.hid hb0
  have HG0 := Lib.hid g0
  have HG1 := Lib.hid g1
  have HW0 := Lib.hid hW0
  obtain ⟨c0, c1, f0⟩ := wide_cells g0
  clear hb0 g0 g1 hW0
  go_enter Try.func44, Try.ntmps44
  go_upto_region 1 with (fail)
  rw [← HW0.out]
  go_wp2_with fail
  (with_reducible refine (HV.out _).mono ?_)
  rintro e w1 ⟨rfl, hb1⟩
  have HK0 := Lib.hid (wide_hold (w := W0) HG0.out hb1)
  have HK1 := Lib.hid (wide_hold (w := W0) HG1.out hb1)
  have HB1 := Lib.hid (HB0.out.trans (hb1.mono HB0.out.size))
  clear c0 c1 f0 hb1
  obtain ⟨c0, c1, f0⟩ := wide_cells HK0.out
  obtain ⟨d0, d1, f1⟩ := wide_cells HK1.out
  cases ok with
  | false =>
    obtain ⟨rfl, rfl, rfl⟩ : fb = false ∧ ft = ⟨#[]⟩ ∧ E = 2 := by
      have h : (false, (⟨#[]⟩ : ByteArray), (2 : Int)) = (fb, ft, E) := HH.out
      injection h with h1 h2
      injection h2 with h2 h3
      exact ⟨h1.symm, h2.symm, h3.symm⟩
    clear HH c0 c1 f0
    go_wp2
    have m2 := wide_set HK1.out false ⟨#[]⟩
    have hb9 := below_set2 (p := w.heap.size + 1) HB1.out (by omega) false ⟨#[]⟩
    clear d0 d1 f1
    obtain ⟨d20, d21, -⟩ := wide_cells m2
    clear m2
    generalize (w1.setCell ⟨w.heap.size + 1, 0, none⟩ (.bool false)).setCell ⟨w.heap.size + 1, 1, none⟩ (.string ⟨#[]⟩) = W9 at d20 d21 hb9 ⊢
    rw [HP.out]
    exact bodyPost_ret (v := .tuple #[.agg #[.bool false, .string ⟨#[]⟩], .int .i64 2]) (by simp [results, Try.results44, go_sem, d20, d21]) rfl ⟨rfl, hb9⟩
  | true =>
    obtain ⟨hlim, -, -, -⟩ := valid_spec neg s HOK.out.symm
    have hin := in_any neg s HOK.out.symm
    have hlen := hw_len129 hlim
    obtain ⟨S, hS⟩ : ∃ S, S = (!neg && decide (numB s ≠ 0)) := ⟨_, rfl⟩
    obtain ⟨ho1, ho2⟩ := neg_out neg s HOK.out.symm S hS
    obtain ⟨hfb, hft, hE⟩ : (!neg && decide (s.size ≠ 0)) = fb ∧ s = ft ∧ (0 : Int) = E := by
      have h : (!neg && decide (s.size ≠ 0), s, (0 : Int)) = (fb, ft, E) := by have h := HH.out; simpa using h
      injection h with h1 h2
      injection h2 with h2 h3
      exact ⟨h1, h2, h3⟩
    rw [hfb] at ho1
    subst hE
    obtain ⟨n, en⟩ : ∃ n, n = numB s := ⟨_, rfl⟩
    rw [← en] at hin hlen ho1 ho2 hS
    have HIN := Lib.hid hin
    have HNEG : Hid (∀ W v, World.numH W v n → Calls Try.prog 67 #[.agg #[.bool neg, v]] W (SRet W S n)) := fun W v h => by rw [hS]; exact negative_any neg n _ (hw_vlt n) (by omega) v W (numH_raw h)
    have HOUT : Hid (∀ v W, World.numH W v n → Calls Try.prog 57 #[.agg #[.bool S, v]] W fun e w' => e = .returned (.tuple #[.agg #[.bool fb, .string s], .int .i64 0]) ∧ Below W.heap.size W w') := fun v W h => hout_num S n (by omega) fb s 0 ho1 ho2 v W h
    have HFT := Lib.hid hft
    clear hlim hin hlen hS ho1 ho2 hfb hft en HH
    go_wp2_with fail
    (with_reducible refine (HIN.out _).mono ?_)
    rintro e w2 ⟨v2, rfl, hn2, hb2⟩
    obtain ⟨a2, L2, c2, rfl⟩ : ∃ a L c, v2 = .slice a L c := by obtain ⟨x, y, h⟩ := reads_len hn2; exact ⟨x, _, y, h⟩
    have HN2 := Lib.hid hn2
    have HM1 := Lib.hid (wide_hold (w := w1) HK1.out hb2)
    have HB2 := Lib.hid (HB1.out.trans (hb2.mono HB1.out.size))
    clear hn2 hb2 c0 c1 f0 d0 d1 f1
    go_wp2_with fail
    (with_reducible refine (HNEG.out _ _ HN2.out).mono ?_)
    rintro e w3 ⟨v3, rfl, hn3, hb3⟩
    obtain ⟨a3, L3, c3, rfl⟩ : ∃ a L c, v3 = .slice a L c := by obtain ⟨x, y, h⟩ := reads_len hn3; exact ⟨x, _, y, h⟩
    have HN3 := Lib.hid hn3
    have HP1 := Lib.hid (wide_hold (w := w2) HM1.out hb3)
    have HB3 := Lib.hid (HB2.out.trans (hb3.mono HB2.out.size))
    clear hn3 hb3
    go_wp2_with fail
    (with_reducible refine (HOUT.out _ _ HN3.out).mono ?_)
    rintro e w4 ⟨rfl, hb4⟩
    have HQ1 := Lib.hid (wide_hold (w := w3) HP1.out hb4)
    have HB4 := Lib.hid (HB3.out.trans (hb4.mono HB3.out.size))
    clear hb4
    obtain ⟨d0, d1, f1⟩ := wide_cells HQ1.out
    have hft := HFT.out
    subst hft
    go_wp2
    have m2 := wide_set HQ1.out fb s
    have hb9 := below_set2 (p := w.heap.size + 1) HB4.out (by omega) fb s
    clear d0 d1 f1
    obtain ⟨d20, d21, -⟩ := wide_cells m2
    clear m2
    generalize (w4.setCell ⟨w.heap.size + 1, 0, none⟩ (.bool fb)).setCell ⟨w.heap.size + 1, 1, none⟩ (.string s) = W9 at d20 d21 hb9 ⊢
    rw [HP.out]
    exact bodyPost_ret (v := .tuple #[.agg #[.bool fb, .string s], .int .i64 0]) (by simp [results, Try.results44, go_sem, d20, d21]) rfl ⟨rfl, hb9⟩
def maxF (na : Bool) (sa : ByteArray) (nb : Bool) (sb : ByteArray) : Bool × ByteArray × Int := match cmpF na sa nb sb with
  | (c, E) => if E = 0 then (if c < 0 then (nb, sb, 0) else (na, sa, 0)) else (false, ⟨#[]⟩, E)
theorem Cmp_res (na : Bool) (sa : ByteArray) (nb : Bool) (sb : ByteArray) (hsa : sa.size ≤ maxLen) (hsb : sb.size ≤ maxLen) (R E : Int) (h : cmpF na sa nb sb = (R, E)) (w : World) :
    Calls Try.prog 17 #[.agg #[.bool na, .string sa], .agg #[.bool nb, .string sb]] w fun e w' => e = .returned (.tuple #[.int .i64 R, .int .i64 E]) ∧ Below w.heap.size w w' := by
  have := Cmp_any na sa nb sb hsa hsb w
  rwa [h] at this
set_option maxRecDepth 100000 in
set_option maxHeartbeats 8000000 in
theorem Max_any (na : Bool) (sa : ByteArray) (nb : Bool) (sb : ByteArray) (hsa : sa.size ≤ maxLen) (hsb : sb.size ≤ maxLen) (w : World) :
    Calls Try.prog 47 #[.agg #[.bool na, .string sa], .agg #[.bool nb, .string sb]] w fun e w' => e = .returned (.tuple #[.agg #[.bool (maxF na sa nb sb).1, .string (maxF na sa nb sb).2.1], .int .i64 (maxF na sa nb sb).2.2]) ∧ Below w.heap.size w w' := by
  obtain ⟨HPOST, hpost⟩ : ∃ X : Ending → World → Prop, X = fun e w' => e = .returned (.tuple #[.agg #[.bool (maxF na sa nb sb).1, .string (maxF na sa nb sb).2.1], .int .i64 (maxF na sa nb sb).2.2]) ∧ Below w.heap.size w w' := ⟨_, rfl⟩
  rw [← hpost]
  have HP := Lib.hid hpost
  clear hpost
  obtain ⟨c, E, hc⟩ : ∃ c E, cmpF na sa nb sb = (c, E) := ⟨_, _, rfl⟩
  have HC := Lib.hid (Cmp_res na sa nb sb hsa hsb c E hc)
  have HH0 : Hid (maxF na sa nb sb = if E = 0 then (if c < 0 then (nb, sb, 0) else (na, sa, 0)) else (false, ⟨#[]⟩, E)) := by show _ = _; unfold maxF; rw [hc]
  have hE : E = 0 ∨ E = 2 := by
    unfold cmpF at hc
    split at hc <;> (injection hc with _ h2; omega)
  clear hc
  obtain ⟨W0, hW0⟩ : ∃ W0, W0 = ((w.alloc (.cells #[.bool na, .string sa] 23)).alloc (.cells #[.bool nb, .string sb] 23)).alloc (.cells #[.bool false, .string ⟨#[]⟩] 23) := ⟨_, rfl⟩
  have g0 : W0.heap[w.heap.size]? = some (.cells #[.bool na, .string sa] 23) := by rw [hW0, Below.heap_alloc _ _ _ (by simp; omega), Below.heap_alloc _ _ _ (by simp)]; exact heap_alloc_new w _
  have g1 : W0.heap[w.heap.size + 1]? = some (.cells #[.bool nb, .string sb] 23) := by rw [hW0, Below.heap_alloc _ _ _ (by simp)]; exact alloc_last _ _ (by simp)
  have g2 : W0.heap[w.heap.size + 1 + 1]? = some (.cells #[.bool false, .string ⟨#[]⟩] 23) := by rw [hW0]; exact alloc_last _ _ (by simp)
  have hb0 : Below w.heap.size w W0 := by rw [hW0]; exact ((((Below.refl _ w).alloc (Nat.le_refl _) _).alloc (by simp) _).alloc (by simp; omega) _)
  have HB0 := Lib.hid hb0
  have HG0 := Lib.hid g0
  have HG1 := Lib.hid g1
  have HG2 := Lib.hid g2
  have HW0 := Lib.hid hW0
  obtain ⟨c00, c01, f0⟩ := wide_cells g0
  obtain ⟨c10, c11, f1⟩ := wide_cells g1
  clear hb0 g0 g1 g2 hW0
  go_enter Try.func47, Try.ntmps47
  go_upto_region 1 with (fail)
  rw [← HW0.out]
  go_wp2_with fail
  (with_reducible refine (HC.out _).mono ?_)
  rintro e w1 ⟨rfl, hb1⟩
  have HK0 := Lib.hid (wide_hold (w := W0) HG0.out hb1)
  have HK1 := Lib.hid (wide_hold (w := W0) HG1.out hb1)
  have HK2 := Lib.hid (wide_hold (w := W0) HG2.out hb1)
  have HB1 := Lib.hid (HB0.out.trans (hb1.mono HB0.out.size))
  clear c00 c01 f0 c10 c11 f1 hb1
  obtain ⟨c00, c01, -⟩ := wide_cells HK0.out
  obtain ⟨c10, c11, -⟩ := wide_cells HK1.out
  obtain ⟨d0, d1, f2⟩ := wide_cells HK2.out
  rcases hE with rfl | rfl
  · by_cases hlt : c < 0
    · have HH : Hid (maxF na sa nb sb = (nb, sb, 0)) := by show _ = _; rw [HH0.out, if_pos rfl, if_pos hlt]
      clear HH0
      go_wp2
      have m2 := wide_set HK2.out nb sb
      have hb9 := below_set2 (p := w.heap.size + 1 + 1) HB1.out (by omega) nb sb
      clear d0 d1 f2
      obtain ⟨d20, d21, -⟩ := wide_cells m2
      clear m2
      generalize (w1.setCell ⟨w.heap.size + 1 + 1, 0, none⟩ (.bool nb)).setCell ⟨w.heap.size + 1 + 1, 1, none⟩ (.string sb) = W9 at d20 d21 hb9 ⊢
      rw [HP.out]
      exact bodyPost_ret (v := .tuple #[.agg #[.bool nb, .string sb], .int .i64 0]) (by simp [results, Try.results47, go_sem, d20, d21]) rfl ⟨by rw [HH.out], hb9⟩
    · have HH : Hid (maxF na sa nb sb = (na, sa, 0)) := by show _ = _; rw [HH0.out, if_pos rfl, if_neg hlt]
      clear HH0
      go_wp2
      have m2 := wide_set HK2.out na sa
      have hb9 := below_set2 (p := w.heap.size + 1 + 1) HB1.out (by omega) na sa
      clear d0 d1 f2
      obtain ⟨d20, d21, -⟩ := wide_cells m2
      clear m2
      generalize (w1.setCell ⟨w.heap.size + 1 + 1, 0, none⟩ (.bool na)).setCell ⟨w.heap.size + 1 + 1, 1, none⟩ (.string sa) = W9 at d20 d21 hb9 ⊢
      rw [HP.out]
      exact bodyPost_ret (v := .tuple #[.agg #[.bool na, .string sa], .int .i64 0]) (by simp [results, Try.results47, go_sem, d20, d21]) rfl ⟨by rw [HH.out], hb9⟩
  · have HH : Hid (maxF na sa nb sb = (false, ⟨#[]⟩, 2)) := by show _ = _; rw [HH0.out, if_neg (by decide)]
    clear HH0
    go_wp2
    have m2 := wide_set HK2.out false ⟨#[]⟩
    have hb9 := below_set2 (p := w.heap.size + 1 + 1) HB1.out (by omega) false ⟨#[]⟩
    clear d0 d1 f2
    obtain ⟨d20, d21, -⟩ := wide_cells m2
    clear m2
    generalize (w1.setCell ⟨w.heap.size + 1 + 1, 0, none⟩ (.bool false)).setCell ⟨w.heap.size + 1 + 1, 1, none⟩ (.string ⟨#[]⟩) = W9 at d20 d21 hb9 ⊢
    rw [HP.out]
    exact bodyPost_ret (v := .tuple #[.agg #[.bool false, .string ⟨#[]⟩], .int .i64 2]) (by simp [results, Try.results47, go_sem, d20, d21]) rfl ⟨by rw [HH.out], hb9⟩
set_option maxRecDepth 100000 in
set_option maxHeartbeats 8000000 in
theorem refMax_any (na : Bool) (sa : ByteArray) (nb : Bool) (sb : ByteArray) (hsa : sa.size ≤ maxLen) (hsb : sb.size ≤ maxLen) (w : World) :
    Calls Try.prog 48 #[.agg #[.bool na, .string sa], .agg #[.bool nb, .string sb]] w fun e w' => e = .returned (.tuple #[.agg #[.bool (maxF na sa nb sb).1, .string (maxF na sa nb sb).2.1], .int .i64 (maxF na sa nb sb).2.2]) ∧ Below w.heap.size w w' := by
  obtain ⟨HPOST, hpost⟩ : ∃ X : Ending → World → Prop, X = fun e w' => e = .returned (.tuple #[.agg #[.bool (maxF na sa nb sb).1, .string (maxF na sa nb sb).2.1], .int .i64 (maxF na sa nb sb).2.2]) ∧ Below w.heap.size w w' := ⟨_, rfl⟩
  rw [← hpost]
  have HP := Lib.hid hpost
  clear hpost
  obtain ⟨c, E, hc⟩ : ∃ c E, cmpF na sa nb sb = (c, E) := ⟨_, _, rfl⟩
  have HC := Lib.hid (refCmp_any na sa nb sb hsa hsb c E hc)
  have HH0 : Hid (maxF na sa nb sb = if E = 0 then (if c < 0 then (nb, sb, 0) else (na, sa, 0)) else (false, ⟨#[]⟩, E)) := by show _ = _; unfold maxF; rw [hc]
  have hE : E = 0 ∨ E = 2 := by
    unfold cmpF at hc
    split at hc <;> (injection hc with _ h2; omega)
  clear hc
  obtain ⟨W0, hW0⟩ : ∃ W0, W0 = ((w.alloc (.cells #[.bool na, .string sa] 23)).alloc (.cells #[.bool nb, .string sb] 23)).alloc (.cells #[.bool false, .string ⟨#[]⟩] 23) := ⟨_, rfl⟩
  have g0 : W0.heap[w.heap.size]? = some (.cells #[.bool na, .string sa] 23) := by rw [hW0, Below.heap_alloc _ _ _ (by simp; omega), Below.heap_alloc _ _ _ (by simp)]; exact heap_alloc_new w _
  have g1 : W0.heap[w.heap.size + 1]? = some (.cells #[.bool nb, .string sb] 23) := by rw [hW0, Below.heap_alloc _ _ _ (by simp)]; exact alloc_last _ _ (by simp)
  have g2 : W0.heap[w.heap.size + 1 + 1]? = some (.cells #[.bool false, .string ⟨#[]⟩] 23) := by rw [hW0]; exact alloc_last _ _ (by simp)
  have hb0 : Below w.heap.size w W0 := by rw [hW0]; exact ((((Below.refl _ w).alloc (Nat.le_refl _) _).alloc (by simp) _).alloc (by simp; omega) _)
  have HB0 := Lib.hid hb0
  have HG0 := Lib.hid g0
  have HG1 := Lib.hid g1
  have HG2 := Lib.hid g2
  have HW0 := Lib.hid hW0
  obtain ⟨c00, c01, f0⟩ := wide_cells g0
  obtain ⟨c10, c11, f1⟩ := wide_cells g1
  clear hb0 g0 g1 g2 hW0
  go_enter Try.func48, Try.ntmps48
  go_upto_region 1 with (fail)
  rw [← HW0.out]
  go_wp2_with fail
  (with_reducible refine (HC.out _).mono ?_)
  rintro e w1 ⟨rfl, hb1⟩
  have HK0 := Lib.hid (wide_hold (w := W0) HG0.out hb1)
  have HK1 := Lib.hid (wide_hold (w := W0) HG1.out hb1)
  have HK2 := Lib.hid (wide_hold (w := W0) HG2.out hb1)
  have HB1 := Lib.hid (HB0.out.trans (hb1.mono HB0.out.size))
  clear c00 c01 f0 c10 c11 f1 hb1
  obtain ⟨c00, c01, -⟩ := wide_cells HK0.out
  obtain ⟨c10, c11, -⟩ := wide_cells HK1.out
  obtain ⟨d0, d1, f2⟩ := wide_cells HK2.out
  rcases hE with rfl | rfl
  · by_cases hlt : c < 0
    · have HH : Hid (maxF na sa nb sb = (nb, sb, 0)) := by show _ = _; rw [HH0.out, if_pos rfl, if_pos hlt]
      clear HH0
      go_wp2
      have m2 := wide_set HK2.out nb sb
      have hb9 := below_set2 (p := w.heap.size + 1 + 1) HB1.out (by omega) nb sb
      clear d0 d1 f2
      obtain ⟨d20, d21, -⟩ := wide_cells m2
      clear m2
      generalize (w1.setCell ⟨w.heap.size + 1 + 1, 0, none⟩ (.bool nb)).setCell ⟨w.heap.size + 1 + 1, 1, none⟩ (.string sb) = W9 at d20 d21 hb9 ⊢
      rw [HP.out]
      exact bodyPost_ret (v := .tuple #[.agg #[.bool nb, .string sb], .int .i64 0]) (by simp [results, Try.results48, go_sem, d20, d21]) rfl ⟨by rw [HH.out], hb9⟩
    · have HH : Hid (maxF na sa nb sb = (na, sa, 0)) := by show _ = _; rw [HH0.out, if_pos rfl, if_neg hlt]
      clear HH0
      go_wp2
      have m2 := wide_set HK2.out na sa
      have hb9 := below_set2 (p := w.heap.size + 1 + 1) HB1.out (by omega) na sa
      clear d0 d1 f2
      obtain ⟨d20, d21, -⟩ := wide_cells m2
      clear m2
      generalize (w1.setCell ⟨w.heap.size + 1 + 1, 0, none⟩ (.bool na)).setCell ⟨w.heap.size + 1 + 1, 1, none⟩ (.string sa) = W9 at d20 d21 hb9 ⊢
      rw [HP.out]
      exact bodyPost_ret (v := .tuple #[.agg #[.bool na, .string sa], .int .i64 0]) (by simp [results, Try.results48, go_sem, d20, d21]) rfl ⟨by rw [HH.out], hb9⟩
  · have HH : Hid (maxF na sa nb sb = (false, ⟨#[]⟩, 2)) := by show _ = _; rw [HH0.out, if_neg (by decide)]
    clear HH0
    go_wp2
    have m2 := wide_set HK2.out false ⟨#[]⟩
    have hb9 := below_set2 (p := w.heap.size + 1 + 1) HB1.out (by omega) false ⟨#[]⟩
    clear d0 d1 f2
    obtain ⟨d20, d21, -⟩ := wide_cells m2
    clear m2
    generalize (w1.setCell ⟨w.heap.size + 1 + 1, 0, none⟩ (.bool false)).setCell ⟨w.heap.size + 1 + 1, 1, none⟩ (.string ⟨#[]⟩) = W9 at d20 d21 hb9 ⊢
    rw [HP.out]
    exact bodyPost_ret (v := .tuple #[.agg #[.bool false, .string ⟨#[]⟩], .int .i64 2]) (by simp [results, Try.results48, go_sem, d20, d21]) rfl ⟨by rw [HH.out], hb9⟩
end Go.Proofs.Ytdfklcmiagmgaaa
