/- The reference's numbers with signs: the sum. -/
import Derived.Test.YtdfklcmiagmgaaaXR6
namespace Go.Proofs.Ytdfklcmiagmgaaa
set_option linter.all false
open Go.RowKit Go.Shelf Go.WideNum
theorem hw_len_add {A C : Nat} (ha : (hw A).length ≤ 4000) (hc : (hw C).length ≤ 4000) : (hw (A + C)).length ≤ 4001 := by
  obtain ⟨K, hK⟩ : ∃ K, K = 4000 := ⟨_, rfl⟩
  rw [← hK] at ha hc
  have e1 := Nat.lt_of_lt_of_le (hw_vlt A) (Nat.pow_le_pow_right (show 0 < 65536 by omega) ha)
  have e2 := Nat.lt_of_lt_of_le (hw_vlt C) (Nat.pow_le_pow_right (show 0 < 65536 by omega) hc)
  have h3 : A + C < 65536 ^ (K + 1) := by
    rw [Nat.pow_succ]
    generalize 65536 ^ K = P at *
    omega
  have := hw_len_le h3
  omega
theorem hw_lt_sub {A C : Nat} : A - C < 65536 ^ (hw A).length := Nat.lt_of_le_of_lt (Nat.sub_le _ _) (hw_vlt A)
theorem SRet.back {w W : World} {s : Bool} {n : Nat} {e : Ending} {w' : World} (h : SRet W s n e w') (hb : Below w.heap.size w W) : SRet w s n e w' := by
  obtain ⟨v, h1, h2, h3⟩ := h
  exact ⟨v, h1, h2, hb.trans (h3.mono hb.size)⟩
theorem lt_of_cell {w : World} {b o : Nat} {v : Value} (h : w.cell? ⟨b, o, none⟩ = some v) : b < w.heap.size := by
  rcases Nat.lt_or_ge b w.heap.size with h1 | h1
  · exact h1
  · rw [World.cell?, Array.getElem?_eq_none h1] at h; cases h
theorem noInt_numv (s : Bool) (v : Value) (hv : ∀ z, v ≠ .int .u32 z) : noInt #[.bool s, v] := by
  intro u hu z e
  subst e
  have : Value.int .u32 z = v := by simpa using hu
  exact hv z this.symm
set_option maxRecDepth 100000 in
set_option maxHeartbeats 8000000 in
theorem hadd_any (an : Bool) (A : Nat) (va : Value) (bn : Bool) (C : Nat) (vb : Value) (w : World) (hA : World.numH w va A) (hC : World.numH w vb C) (hla : (hw A).length ≤ 4000) (hlc : (hw C).length ≤ 4000) :
    Calls Try.prog 54 #[.agg #[.bool an, va], .agg #[.bool bn, vb]] w (SRet w (sumS A an C bn && decide (sumN A an C bn ≠ 0)) (sumN A an C bn)) := by
  have HA : Hid (World.numH w va A) := hA
  have HC : Hid (World.numH w vb C) := hC
  obtain ⟨aa, p, ca, -, rfl, -, -, -⟩ := numH_words hA
  obtain ⟨ab, q, cb, -, rfl, -, -, -⟩ := numH_words hC
  clear hA hC
  obtain ⟨W0, hW0⟩ : ∃ W0, W0 = ((w.alloc (.cells #[.bool an, .slice aa p ca] 63)).alloc (.cells #[.bool bn, .slice ab q cb] 63)).alloc (.cells #[.bool false, .slice none 0 0] 63) := ⟨_, rfl⟩
  have g0 : W0.heap[w.heap.size]? = some (.cells #[.bool an, .slice aa p ca] 63) := by rw [hW0, Below.heap_alloc _ _ _ (by simp; omega), Below.heap_alloc _ _ _ (by simp)]; exact heap_alloc_new w _
  have g1 : W0.heap[w.heap.size + 1]? = some (.cells #[.bool bn, .slice ab q cb] 63) := by rw [hW0, Below.heap_alloc _ _ _ (by simp)]; exact alloc_last _ _ (by simp)
  have g2 : W0.heap[w.heap.size + 1 + 1]? = some (.cells #[.bool false, .slice none 0 0] 63) := by rw [hW0]; exact alloc_last _ _ (by simp)
  have hb0 : Below w.heap.size w W0 := by rw [hW0]; exact ((((Below.refl _ w).alloc (Nat.le_refl _) _).alloc (by simp) _).alloc (by simp; omega) _)
  have HB0 := Lib.hid hb0
  have HG0 := Lib.hid g0
  have HG1 := Lib.hid g1
  have HG2 := Lib.hid g2
  obtain ⟨c00, c01, f00, f01⟩ := num_cells g0
  obtain ⟨c10, c11, f10, f11⟩ := num_cells g1
  have HW0 := Lib.hid hW0
  have HNA := Lib.hid (numH_below HA.out hb0)
  have HNC := Lib.hid (numH_below HC.out hb0)
  obtain ⟨S, hS⟩ : ∃ S, S = (sumS A an C bn && decide (sumN A an C bn ≠ 0)) := ⟨_, rfl⟩
  obtain ⟨N, hN⟩ : ∃ N, N = sumN A an C bn := ⟨_, rfl⟩
  rw [← hN] at hS ⊢
  rw [← hS]
  obtain ⟨HPOST, hpost⟩ : ∃ R, R = SRet w S N := ⟨_, rfl⟩
  rw [← hpost]
  have HP := Lib.hid hpost
  clear hb0 g0 g1 g2 hW0 hpost
  have hz0 : w.heap.size < W0.heap.size := lt_of_heap HG0.out
  have hz1 : w.heap.size + 1 < W0.heap.size := lt_of_heap HG1.out
  have hz2 : w.heap.size + 1 + 1 < W0.heap.size := lt_of_heap HG2.out
  by_cases hab : an = bn
  · subst hab
    have e1 : sumN A an C an = A + C := by unfold sumN; simp
    have e2 : sumS A an C an = an := by unfold sumS; simp
    rw [e1] at hN
    rw [e2] at hS
    subst hN
    have HCA := Lib.hid (hplus_any A C _ _ W0.drew HNA.out.drew HNC.out.drew hla hlc)
    have HTR : Hid (∀ v W, World.rawH W v (A + C) (hw (A + C)).length → Calls Try.prog 62 #[.agg #[.bool an, v]] W (SRet W S (A + C))) := fun v W h => by rw [hS]; exact htrim_any an (A + C) _ (hw_vlt _) (Nat.le_trans (hw_len_add hla hlc) (by omega)) v W h
    have HRAW : Hid (∀ v W, World.numH W v (A + C) → World.rawH W v (A + C) (hw (A + C)).length) := fun v W h => numH_raw h
    have hnn : (an == an) = true := by simp
    have HBW := HB0
    have HGR := HG2
    clear hS e1 e2
    go_enter Try.func54, Try.ntmps54
    go_upto_region 1 with (fail)
    rw [← HW0.out]
    go_wp2_with fail
    refine wp_region_line (fun w' => w'.cell? ⟨w.heap.size, 0, none⟩ = some (.bool an) ∧ w'.cell? ⟨w.heap.size, 1, none⟩ = some (.slice aa p ca) ∧ w'.cell? ⟨w.heap.size + 1, 1, none⟩ = some (.slice ab q cb)) 9 (by kernel_rfl) ⟨c00, c01, c11⟩ (fun hHeld => ?_)
    refine wpAnyT_take 0 (v := ?_) (by kernel_rfl) rfl (by kernel_rfl) (by decide) rfl (by kernel_rfl) (by kernel_rfl) (fun _ _ _ h => h) (Or.inl ⟨by rfl, ?_⟩) (by assumption) ?_
    rotate_left
    · (intro wq hSq; (try dsimp only at hSq); go_simp; try with_reducible rfl)
    try simp only [Act.put, List.setIfInBounds_toArray, List.set_cons_zero, List.set_cons_succ]
    refine wpAnyT_take 1 (v := ?_) (by kernel_rfl) rfl (by kernel_rfl) (by decide) rfl (by kernel_rfl) (by kernel_rfl) (fun _ _ _ h => h) (Or.inl ⟨by rfl, ?_⟩) (by assumption) ?_
    rotate_left
    · (intro wq hSq; (try dsimp only at hSq); go_simp; try with_reducible rfl)
    try simp only [Act.put, List.setIfInBounds_toArray, List.set_cons_zero, List.set_cons_succ]
    refine wpAnyT_take 2 (v := ?_) (by kernel_rfl) rfl (by kernel_rfl) (by decide) rfl (by kernel_rfl) (by kernel_rfl) (fun _ _ _ h => h) (Or.inl ⟨by rfl, ?_⟩) (by assumption) ?_
    rotate_left
    · (intro wq hSq; (try dsimp only at hSq); go_simp; try with_reducible rfl)
    try simp only [Act.put, List.setIfInBounds_toArray, List.set_cons_zero, List.set_cons_succ]
    refine wpAnyT_take 3 (v := ?_) (by kernel_rfl) rfl (by kernel_rfl) (by decide) rfl (by kernel_rfl) (by kernel_rfl) (fun _ _ _ h => h) (Or.inl ⟨by rfl, ?_⟩) (by assumption) ?_
    rotate_left
    · (intro wq hSq; (try dsimp only at hSq); go_simp; try with_reducible rfl)
    try simp only [Act.put, List.setIfInBounds_toArray, List.set_cons_zero, List.set_cons_succ]
    refine wpAnyT_take 4 (v := ?_) (by kernel_rfl) rfl (by kernel_rfl) (by decide) rfl (by kernel_rfl) (by kernel_rfl) (fun _ _ _ h => h) (Or.inl ⟨by rfl, ?_⟩) (by assumption) ?_
    rotate_left
    · (intro wq hSq; (try dsimp only at hSq); go_simp; try with_reducible rfl)
    try simp only [Act.put, List.setIfInBounds_toArray, List.set_cons_zero, List.set_cons_succ]
    refine wpAnyT_take 5 (v := ?_) (by kernel_rfl) rfl (by kernel_rfl) (by decide) rfl (by kernel_rfl) (by kernel_rfl) (fun _ _ _ h => h) (Or.inl ⟨by rfl, ?_⟩) (by assumption) ?_
    rotate_left
    · (intro wq hSq; (try dsimp only at hSq); go_simp; try with_reducible rfl)
    try simp only [Act.put, List.setIfInBounds_toArray, List.set_cons_zero, List.set_cons_succ]
    refine wpAnyT_step 6 (by kernel_rfl) rfl (fun K hK => ?_)
    go_simp
    go_at_call 77
    (with_reducible refine (HCA.out).mono ?_)
    rintro e w5 ⟨v5, rfl, hn5, hb5⟩
    obtain ⟨a5, L5, c5, rfl⟩ : ∃ a5 L5 c5, v5 = .slice a5 L5 c5 := by obtain ⟨x, y, h⟩ := reads_len hn5; exact ⟨x, _, y, h⟩
    have hb05 : Below W0.heap.size W0 w5 := ((Below.refl _ _).drew).trans hb5
    have k0 := (hb05.cell (p := ⟨w.heap.size, 0, none⟩) hz0).trans c00
    have k1 := (hb05.cell (p := ⟨w.heap.size, 1, none⟩) hz0).trans c01
    have k2 := (hb05.cell (p := ⟨w.heap.size + 1, 1, none⟩) hz1).trans c11
    have hg5 := (hb05.block _ hz2).trans HGR.out
    have hbw5 := HBW.out.trans (hb05.mono HBW.out.size)
    have hn5' := HRAW.out _ _ hn5
    refine hK.out _ _ ⟨k0, k1, k2⟩ (fun hHeld2 => ?_)
    have HB5 := Lib.hid hbw5
    have HN5 := Lib.hid hn5'
    have HG5 := Lib.hid hg5
    clear hb5 hn5 hb05 hg5 hbw5 hn5' hK K hHeld
    try simp only [Act.put, List.setIfInBounds_toArray, List.set_cons_zero, List.set_cons_succ]
    refine wpAnyT_take 7 (v := ?_) (by kernel_rfl) rfl (by kernel_rfl) (by decide) rfl (by kernel_rfl) (by kernel_rfl) (fun _ _ _ h => h) (Or.inl ⟨by rfl, ?_⟩) (by assumption) ?_
    rotate_left
    · (intro wq hSq; (try dsimp only at hSq); go_simp; try with_reducible rfl)
    try simp only [Act.put, List.setIfInBounds_toArray, List.set_cons_zero, List.set_cons_succ]
    refine wpAnyT_step 8 (by kernel_rfl) rfl (fun K hK => ?_)
    go_simp
    go_at_call 62
    (with_reducible refine (HTR.out _ _ HN5.out).mono ?_)
    rintro e w6 ⟨v6, rfl, hn6, hb6⟩
    obtain ⟨a6, L6, c6, rfl⟩ : ∃ a5 L5 c5, v6 = .slice a5 L5 c5 := by obtain ⟨x, y, h⟩ := reads_len hn6; exact ⟨x, _, y, h⟩
    have hz5 := HB5.out.size
    have i0 := (hb6.cell (p := ⟨w.heap.size, 0, none⟩) (lt_of_cell k0)).trans k0
    have i1 := (hb6.cell (p := ⟨w.heap.size, 1, none⟩) (lt_of_cell k1)).trans k1
    have i2 := (hb6.cell (p := ⟨w.heap.size + 1, 1, none⟩) (lt_of_cell k2)).trans k2
    have hg6 := (hb6.block _ (lt_of_heap HG5.out)).trans HG5.out
    have hbw6 := HB5.out.trans (hb6.mono HB5.out.size)
    refine hK.out _ _ ⟨i0, i1, i2⟩ (fun hHeld3 => ?_)
    have HB6 := Lib.hid hbw6
    have HN6 := Lib.hid hn6
    have HG6 := Lib.hid hg6
    obtain ⟨d0, d1, fz0, fz1⟩ := num_cells hg6
    clear hb6 hn6 hg6 hbw6 hz5 k0 k1 k2 hK K hHeld2
    try simp only [Act.put, List.setIfInBounds_toArray, List.set_cons_zero, List.set_cons_succ]
    refine wpAnyT_last (by kernel_rfl) (by kernel_rfl) rfl (fun K hK => ?_)
    go_simp
    refine hK.out _ _ ?_
    clear hK K hHeld3
    have m2 := num_set HG6.out (.bool S) (.slice a6 L6 c6)
    have hb9 : Below w.heap.size w ((w6.setCell ⟨w.heap.size + 1 + 1, 0, none⟩ (.bool S)).setCell ⟨w.heap.size + 1 + 1, 1, none⟩ (.slice a6 L6 c6)) := (HB6.out.setCell (by simp; omega) _).setCell (by simp; omega) _
    have hn9 := numH_set HN6.out HG6.out (.bool S) (.slice a6 L6 c6)
    obtain ⟨d20, d21, -, -⟩ := num_cells m2
    clear m2 d0 d1 fz0 fz1 i0 i1 i2
    generalize (w6.setCell ⟨w.heap.size + 1 + 1, 0, none⟩ (.bool S)).setCell ⟨w.heap.size + 1 + 1, 1, none⟩ (.slice a6 L6 c6) = W9 at d20 d21 hb9 hn9 ⊢
    have HB9 := Lib.hid hb9
    have HN9 := Lib.hid hn9
    clear hb9 hn9
    go_wp2
    rw [HP.out]
    exact bodyPost_ret (v := .agg #[.bool S, .slice a6 L6 c6]) (by simp [results, Try.results54, go_sem, d20, d21]) rfl ⟨.slice a6 L6 c6, rfl, HN9.out, HB9.out⟩
  · obtain rfl : bn = !an := by cases an <;> cases bn <;> first | rfl | exact absurd rfl hab
    have hnn : (an == !an) = false := by cases an <;> rfl
    have HOR := Lib.hid (order_num A C _ _ W0 HNA.out HNC.out hla hlc)
    by_cases hlt : A < C
    · have e1 : sumN A an C (!an) = C - A := by unfold sumN; rw [if_neg hab, if_pos hlt]
      have e2 : sumS A an C (!an) = !an := by unfold sumS; rw [if_neg hab, if_pos hlt]
      rw [e1] at hN
      rw [e2] at hS
      obtain ⟨R, hR⟩ : ∃ R, R = cmpN A C := ⟨_, rfl⟩
      rw [← hR] at HOR
      obtain rfl : R = -1 := by rw [hR, cmpN, if_pos hlt]
      subst hN
      have HNT := Lib.hid hnn
      have HMN : Hid (∀ W va vb, World.numH W va C → World.numH W vb A → Calls Try.prog 79 #[va, vb] W (RawRet W (C - A) (hw C).length)) := fun W va vb h1 h2 => hminus_any C A (Nat.le_of_lt hlt) va vb W h1 h2 hlc hla
      have HTR : Hid (∀ v W, World.rawH W v (C - A) (hw C).length → Calls Try.prog 62 #[.agg #[.bool (!an), v]] W (SRet W S (C - A))) := fun v W h => by rw [hS]; exact htrim_any (!an) (C - A) _ hw_lt_sub (Nat.le_trans hlc (by omega)) v W h
      have HRAW : Hid (∀ v W, World.rawH W v (C - A) (hw C).length → World.rawH W v (C - A) (hw C).length) := fun v W h => h
      clear hS e1 e2 hR
      go_enter Try.func54, Try.ntmps54
      go_upto_region 1 with (fail)
      rw [← HW0.out]
      go_wp2_with fail
      (with_reducible refine (HOR.out).mono ?_)
      rintro e Wa ⟨rfl, n1, hw1⟩
      have hbd : Below W0.heap.size W0 Wa := by rw [hw1]; exact below_drewN (Below.refl _ _) n1
      have ga := (hbd.block _ hz0).trans HG0.out
      have gb := (hbd.block _ hz1).trans HG1.out
      have gr := (hbd.block _ hz2).trans HG2.out
      have hna := numH_below HNA.out hbd
      have hnc := numH_below HNC.out hbd
      have hbw := HB0.out.trans (hbd.mono HB0.out.size)
      replace hz0 := Nat.lt_of_lt_of_le hz0 hbd.size
      replace hz1 := Nat.lt_of_lt_of_le hz1 hbd.size
      replace hz2 := Nat.lt_of_lt_of_le hz2 hbd.size
      clear hbd c00 c01 c10 c11 f00 f01 f10 f11 hw1
      have HA1 := Lib.hid ga
      have HA2 := Lib.hid gb
      have HA3 := Lib.hid gr
      have HA4 := Lib.hid hna
      have HA5 := Lib.hid hnc
      have HA6 := Lib.hid hbw
      obtain ⟨c00, c01, f00, f01⟩ := num_cells ga
      obtain ⟨c10, c11, f10, f11⟩ := num_cells gb
      clear ga gb gr hna hnc hbw
      go_wp2_with fail
      have ga := HA1.out
      have gb := HA2.out
      have gr := HA3.out
      have hna := HA4.out
      have hnc := HA5.out
      have hbw := HA6.out
      clear c00 c01 c10 c11 f00 f01 f10 f11
      have ga1 := num_set ga (.bool (!an)) (.slice ab q cb)
      have gb1 := (two_other (W := Wa) (p := w.heap.size) (.bool (!an)) (.slice ab q cb) (w.heap.size + 1) (by omega)).trans gb
      have gr1 := (two_other (W := Wa) (p := w.heap.size) (.bool (!an)) (.slice ab q cb) (w.heap.size + 1 + 1) (by omega)).trans gr
      have hna1 := numH_set hna ga (.bool (!an)) (.slice ab q cb)
      have hnc1 := numH_set hnc ga (.bool (!an)) (.slice ab q cb)
      have hbw1 : Below w.heap.size w ((Wa.setCell ⟨w.heap.size, 0, none⟩ (.bool (!an))).setCell ⟨w.heap.size, 1, none⟩ (.slice ab q cb)) := (hbw.setCell (by simp) _).setCell (by simp) _
      have hs1 : ((Wa.setCell ⟨w.heap.size, 0, none⟩ (.bool (!an))).setCell ⟨w.heap.size, 1, none⟩ (.slice ab q cb)).heap.size = Wa.heap.size := by simp
      clear ga gb gr hna hnc hbw
      generalize (Wa.setCell ⟨w.heap.size, 0, none⟩ (.bool (!an))).setCell ⟨w.heap.size, 1, none⟩ (.slice ab q cb) = Wb at ga1 gb1 gr1 hna1 hnc1 hbw1 hs1 ⊢
      rw [← hs1] at hz0 hz1 hz2
      clear hs1
      have ga := (two_other (W := Wb) (p := w.heap.size + 1) (.bool an) (.slice aa p ca) (w.heap.size) (by omega)).trans ga1
      have gb := num_set gb1 (.bool an) (.slice aa p ca)
      have gr := (two_other (W := Wb) (p := w.heap.size + 1) (.bool an) (.slice aa p ca) (w.heap.size + 1 + 1) (by omega)).trans gr1
      have hna := numH_set hna1 gb1 (.bool an) (.slice aa p ca)
      have hnc := numH_set hnc1 gb1 (.bool an) (.slice aa p ca)
      have hbw : Below w.heap.size w ((Wb.setCell ⟨w.heap.size + 1, 0, none⟩ (.bool an)).setCell ⟨w.heap.size + 1, 1, none⟩ (.slice aa p ca)) := (hbw1.setCell (by simp) _).setCell (by simp) _
      have hs1 : ((Wb.setCell ⟨w.heap.size + 1, 0, none⟩ (.bool an)).setCell ⟨w.heap.size + 1, 1, none⟩ (.slice aa p ca)).heap.size = Wb.heap.size := by simp
      clear ga1 gb1 gr1 hna1 hnc1 hbw1
      generalize (Wb.setCell ⟨w.heap.size + 1, 0, none⟩ (.bool an)).setCell ⟨w.heap.size + 1, 1, none⟩ (.slice aa p ca) = W1 at ga gb gr hna hnc hbw hs1 ⊢
      rw [← hs1] at hz0 hz1 hz2
      obtain ⟨q00, q01, -, -⟩ := num_cells ga
      obtain ⟨-, q11, -, -⟩ := num_cells gb
      have HGR := Lib.hid gr
      have HBW := Lib.hid hbw
      have HCA := Lib.hid (HMN.out W1.drew _ _ hnc.drew hna.drew)
      clear hs1 ga gb gr hna hnc hbw
      refine wp_region_line (fun w' => w'.cell? ⟨w.heap.size, 0, none⟩ = some (.bool (!an)) ∧ w'.cell? ⟨w.heap.size, 1, none⟩ = some (.slice ab q cb) ∧ w'.cell? ⟨w.heap.size + 1, 1, none⟩ = some (.slice aa p ca)) 9 (by kernel_rfl) ⟨q00, q01, q11⟩ (fun hHeld => ?_)
      refine wpAnyT_take 0 (v := ?_) (by kernel_rfl) rfl (by kernel_rfl) (by decide) rfl (by kernel_rfl) (by kernel_rfl) (fun _ _ _ h => h) (Or.inl ⟨by rfl, ?_⟩) (by assumption) ?_
      rotate_left
      · (intro wq hSq; (try dsimp only at hSq); go_simp; try with_reducible rfl)
      try simp only [Act.put, List.setIfInBounds_toArray, List.set_cons_zero, List.set_cons_succ]
      refine wpAnyT_take 1 (v := ?_) (by kernel_rfl) rfl (by kernel_rfl) (by decide) rfl (by kernel_rfl) (by kernel_rfl) (fun _ _ _ h => h) (Or.inl ⟨by rfl, ?_⟩) (by assumption) ?_
      rotate_left
      · (intro wq hSq; (try dsimp only at hSq); go_simp; try with_reducible rfl)
      try simp only [Act.put, List.setIfInBounds_toArray, List.set_cons_zero, List.set_cons_succ]
      refine wpAnyT_take 2 (v := ?_) (by kernel_rfl) rfl (by kernel_rfl) (by decide) rfl (by kernel_rfl) (by kernel_rfl) (fun _ _ _ h => h) (Or.inl ⟨by rfl, ?_⟩) (by assumption) ?_
      rotate_left
      · (intro wq hSq; (try dsimp only at hSq); go_simp; try with_reducible rfl)
      try simp only [Act.put, List.setIfInBounds_toArray, List.set_cons_zero, List.set_cons_succ]
      refine wpAnyT_take 3 (v := ?_) (by kernel_rfl) rfl (by kernel_rfl) (by decide) rfl (by kernel_rfl) (by kernel_rfl) (fun _ _ _ h => h) (Or.inl ⟨by rfl, ?_⟩) (by assumption) ?_
      rotate_left
      · (intro wq hSq; (try dsimp only at hSq); go_simp; try with_reducible rfl)
      try simp only [Act.put, List.setIfInBounds_toArray, List.set_cons_zero, List.set_cons_succ]
      refine wpAnyT_take 4 (v := ?_) (by kernel_rfl) rfl (by kernel_rfl) (by decide) rfl (by kernel_rfl) (by kernel_rfl) (fun _ _ _ h => h) (Or.inl ⟨by rfl, ?_⟩) (by assumption) ?_
      rotate_left
      · (intro wq hSq; (try dsimp only at hSq); go_simp; try with_reducible rfl)
      try simp only [Act.put, List.setIfInBounds_toArray, List.set_cons_zero, List.set_cons_succ]
      refine wpAnyT_take 5 (v := ?_) (by kernel_rfl) rfl (by kernel_rfl) (by decide) rfl (by kernel_rfl) (by kernel_rfl) (fun _ _ _ h => h) (Or.inl ⟨by rfl, ?_⟩) (by assumption) ?_
      rotate_left
      · (intro wq hSq; (try dsimp only at hSq); go_simp; try with_reducible rfl)
      try simp only [Act.put, List.setIfInBounds_toArray, List.set_cons_zero, List.set_cons_succ]
      refine wpAnyT_step 6 (by kernel_rfl) rfl (fun K hK => ?_)
      go_simp
      go_at_call 79
      (with_reducible refine (HCA.out).mono ?_)
      rintro e w5 ⟨v5, rfl, hn5, hb5⟩
      obtain ⟨a5, L5, c5, rfl⟩ : ∃ a5 L5 c5, v5 = .slice a5 L5 c5 := by obtain ⟨x, y, h⟩ := reads_len hn5; exact ⟨x, _, y, h⟩
      have hb05 : Below W1.heap.size W1 w5 := ((Below.refl _ _).drew).trans hb5
      have k0 := (hb05.cell (p := ⟨w.heap.size, 0, none⟩) hz0).trans q00
      have k1 := (hb05.cell (p := ⟨w.heap.size, 1, none⟩) hz0).trans q01
      have k2 := (hb05.cell (p := ⟨w.heap.size + 1, 1, none⟩) hz1).trans q11
      have hg5 := (hb05.block _ hz2).trans HGR.out
      have hbw5 := HBW.out.trans (hb05.mono HBW.out.size)
      have hn5' := HRAW.out _ _ hn5
      refine hK.out _ _ ⟨k0, k1, k2⟩ (fun hHeld2 => ?_)
      have HB5 := Lib.hid hbw5
      have HN5 := Lib.hid hn5'
      have HG5 := Lib.hid hg5
      clear hb5 hn5 hb05 hg5 hbw5 hn5' hK K hHeld
      try simp only [Act.put, List.setIfInBounds_toArray, List.set_cons_zero, List.set_cons_succ]
      refine wpAnyT_take 7 (v := ?_) (by kernel_rfl) rfl (by kernel_rfl) (by decide) rfl (by kernel_rfl) (by kernel_rfl) (fun _ _ _ h => h) (Or.inl ⟨by rfl, ?_⟩) (by assumption) ?_
      rotate_left
      · (intro wq hSq; (try dsimp only at hSq); go_simp; try with_reducible rfl)
      try simp only [Act.put, List.setIfInBounds_toArray, List.set_cons_zero, List.set_cons_succ]
      refine wpAnyT_step 8 (by kernel_rfl) rfl (fun K hK => ?_)
      go_simp
      go_at_call 62
      (with_reducible refine (HTR.out _ _ HN5.out).mono ?_)
      rintro e w6 ⟨v6, rfl, hn6, hb6⟩
      obtain ⟨a6, L6, c6, rfl⟩ : ∃ a5 L5 c5, v6 = .slice a5 L5 c5 := by obtain ⟨x, y, h⟩ := reads_len hn6; exact ⟨x, _, y, h⟩
      have hz5 := HB5.out.size
      have i0 := (hb6.cell (p := ⟨w.heap.size, 0, none⟩) (lt_of_cell k0)).trans k0
      have i1 := (hb6.cell (p := ⟨w.heap.size, 1, none⟩) (lt_of_cell k1)).trans k1
      have i2 := (hb6.cell (p := ⟨w.heap.size + 1, 1, none⟩) (lt_of_cell k2)).trans k2
      have hg6 := (hb6.block _ (lt_of_heap HG5.out)).trans HG5.out
      have hbw6 := HB5.out.trans (hb6.mono HB5.out.size)
      refine hK.out _ _ ⟨i0, i1, i2⟩ (fun hHeld3 => ?_)
      have HB6 := Lib.hid hbw6
      have HN6 := Lib.hid hn6
      have HG6 := Lib.hid hg6
      obtain ⟨d0, d1, fz0, fz1⟩ := num_cells hg6
      clear hb6 hn6 hg6 hbw6 hz5 k0 k1 k2 hK K hHeld2
      try simp only [Act.put, List.setIfInBounds_toArray, List.set_cons_zero, List.set_cons_succ]
      refine wpAnyT_last (by kernel_rfl) (by kernel_rfl) rfl (fun K hK => ?_)
      go_simp
      refine hK.out _ _ ?_
      clear hK K hHeld3
      have m2 := num_set HG6.out (.bool S) (.slice a6 L6 c6)
      have hb9 : Below w.heap.size w ((w6.setCell ⟨w.heap.size + 1 + 1, 0, none⟩ (.bool S)).setCell ⟨w.heap.size + 1 + 1, 1, none⟩ (.slice a6 L6 c6)) := (HB6.out.setCell (by simp; omega) _).setCell (by simp; omega) _
      have hn9 := numH_set HN6.out HG6.out (.bool S) (.slice a6 L6 c6)
      obtain ⟨d20, d21, -, -⟩ := num_cells m2
      clear m2 d0 d1 fz0 fz1 i0 i1 i2
      generalize (w6.setCell ⟨w.heap.size + 1 + 1, 0, none⟩ (.bool S)).setCell ⟨w.heap.size + 1 + 1, 1, none⟩ (.slice a6 L6 c6) = W9 at d20 d21 hb9 hn9 ⊢
      have HB9 := Lib.hid hb9
      have HN9 := Lib.hid hn9
      clear hb9 hn9
      go_wp2
      rw [HP.out]
      exact bodyPost_ret (v := .agg #[.bool S, .slice a6 L6 c6]) (by simp [results, Try.results54, go_sem, d20, d21]) rfl ⟨.slice a6 L6 c6, rfl, HN9.out, HB9.out⟩
    · have e1 : sumN A an C (!an) = A - C := by unfold sumN; rw [if_neg hab, if_neg hlt]
      have e2 : sumS A an C (!an) = an := by unfold sumS; rw [if_neg hab, if_neg hlt]
      rw [e1] at hN
      rw [e2] at hS
      obtain ⟨R, hR⟩ : ∃ R, R = cmpN A C := ⟨_, rfl⟩
      rw [← hR] at HOR
      have hR0 : ¬ R < 0 := by rw [hR, cmpN, if_neg hlt]; split <;> omega
      subst hN
      have HMN : Hid (∀ W va vb, World.numH W va A → World.numH W vb C → Calls Try.prog 79 #[va, vb] W (RawRet W (A - C) (hw A).length)) := fun W va vb h1 h2 => hminus_any A C (Nat.le_of_not_lt hlt) va vb W h1 h2 hla hlc
      have HTR : Hid (∀ v W, World.rawH W v (A - C) (hw A).length → Calls Try.prog 62 #[.agg #[.bool an, v]] W (SRet W S (A - C))) := fun v W h => by rw [hS]; exact htrim_any an (A - C) _ hw_lt_sub (Nat.le_trans hla (by omega)) v W h
      have HRAW : Hid (∀ v W, World.rawH W v (A - C) (hw A).length → World.rawH W v (A - C) (hw A).length) := fun v W h => h
      clear hS e1 e2 hR
      go_enter Try.func54, Try.ntmps54
      go_upto_region 1 with (fail)
      rw [← HW0.out]
      go_wp2_with fail
      (with_reducible refine (HOR.out).mono ?_)
      rintro e Wa ⟨rfl, n1, hw1⟩
      have hbd : Below W0.heap.size W0 Wa := by rw [hw1]; exact below_drewN (Below.refl _ _) n1
      have ga := (hbd.block _ hz0).trans HG0.out
      have gb := (hbd.block _ hz1).trans HG1.out
      have gr := (hbd.block _ hz2).trans HG2.out
      have hna := numH_below HNA.out hbd
      have hnc := numH_below HNC.out hbd
      have hbw := HB0.out.trans (hbd.mono HB0.out.size)
      replace hz0 := Nat.lt_of_lt_of_le hz0 hbd.size
      replace hz1 := Nat.lt_of_lt_of_le hz1 hbd.size
      replace hz2 := Nat.lt_of_lt_of_le hz2 hbd.size
      clear hbd c00 c01 c10 c11 f00 f01 f10 f11 hw1
      obtain ⟨q00, q01, -, -⟩ := num_cells ga
      obtain ⟨-, q11, -, -⟩ := num_cells gb
      have HGR := Lib.hid gr
      have HBW := Lib.hid hbw
      have HCA := Lib.hid (HMN.out Wa.drew _ _ hna.drew hnc.drew)
      clear ga gb gr hna hnc hbw
      go_wp2_with fail
      refine wp_region_line (fun w' => w'.cell? ⟨w.heap.size, 0, none⟩ = some (.bool an) ∧ w'.cell? ⟨w.heap.size, 1, none⟩ = some (.slice aa p ca) ∧ w'.cell? ⟨w.heap.size + 1, 1, none⟩ = some (.slice ab q cb)) 9 (by kernel_rfl) ⟨q00, q01, q11⟩ (fun hHeld => ?_)
      refine wpAnyT_take 0 (v := ?_) (by kernel_rfl) rfl (by kernel_rfl) (by decide) rfl (by kernel_rfl) (by kernel_rfl) (fun _ _ _ h => h) (Or.inl ⟨by rfl, ?_⟩) (by assumption) ?_
      rotate_left
      · (intro wq hSq; (try dsimp only at hSq); go_simp; try with_reducible rfl)
      try simp only [Act.put, List.setIfInBounds_toArray, List.set_cons_zero, List.set_cons_succ]
      refine wpAnyT_take 1 (v := ?_) (by kernel_rfl) rfl (by kernel_rfl) (by decide) rfl (by kernel_rfl) (by kernel_rfl) (fun _ _ _ h => h) (Or.inl ⟨by rfl, ?_⟩) (by assumption) ?_
      rotate_left
      · (intro wq hSq; (try dsimp only at hSq); go_simp; try with_reducible rfl)
      try simp only [Act.put, List.setIfInBounds_toArray, List.set_cons_zero, List.set_cons_succ]
      refine wpAnyT_take 2 (v := ?_) (by kernel_rfl) rfl (by kernel_rfl) (by decide) rfl (by kernel_rfl) (by kernel_rfl) (fun _ _ _ h => h) (Or.inl ⟨by rfl, ?_⟩) (by assumption) ?_
      rotate_left
      · (intro wq hSq; (try dsimp only at hSq); go_simp; try with_reducible rfl)
      try simp only [Act.put, List.setIfInBounds_toArray, List.set_cons_zero, List.set_cons_succ]
      refine wpAnyT_take 3 (v := ?_) (by kernel_rfl) rfl (by kernel_rfl) (by decide) rfl (by kernel_rfl) (by kernel_rfl) (fun _ _ _ h => h) (Or.inl ⟨by rfl, ?_⟩) (by assumption) ?_
      rotate_left
      · (intro wq hSq; (try dsimp only at hSq); go_simp; try with_reducible rfl)
      try simp only [Act.put, List.setIfInBounds_toArray, List.set_cons_zero, List.set_cons_succ]
      refine wpAnyT_take 4 (v := ?_) (by kernel_rfl) rfl (by kernel_rfl) (by decide) rfl (by kernel_rfl) (by kernel_rfl) (fun _ _ _ h => h) (Or.inl ⟨by rfl, ?_⟩) (by assumption) ?_
      rotate_left
      · (intro wq hSq; (try dsimp only at hSq); go_simp; try with_reducible rfl)
      try simp only [Act.put, List.setIfInBounds_toArray, List.set_cons_zero, List.set_cons_succ]
      refine wpAnyT_take 5 (v := ?_) (by kernel_rfl) rfl (by kernel_rfl) (by decide) rfl (by kernel_rfl) (by kernel_rfl) (fun _ _ _ h => h) (Or.inl ⟨by rfl, ?_⟩) (by assumption) ?_
      rotate_left
      · (intro wq hSq; (try dsimp only at hSq); go_simp; try with_reducible rfl)
      try simp only [Act.put, List.setIfInBounds_toArray, List.set_cons_zero, List.set_cons_succ]
      refine wpAnyT_step 6 (by kernel_rfl) rfl (fun K hK => ?_)
      go_simp
      go_at_call 79
      (with_reducible refine (HCA.out).mono ?_)
      rintro e w5 ⟨v5, rfl, hn5, hb5⟩
      obtain ⟨a5, L5, c5, rfl⟩ : ∃ a5 L5 c5, v5 = .slice a5 L5 c5 := by obtain ⟨x, y, h⟩ := reads_len hn5; exact ⟨x, _, y, h⟩
      have hb05 : Below Wa.heap.size Wa w5 := ((Below.refl _ _).drew).trans hb5
      have k0 := (hb05.cell (p := ⟨w.heap.size, 0, none⟩) hz0).trans q00
      have k1 := (hb05.cell (p := ⟨w.heap.size, 1, none⟩) hz0).trans q01
      have k2 := (hb05.cell (p := ⟨w.heap.size + 1, 1, none⟩) hz1).trans q11
      have hg5 := (hb05.block _ hz2).trans HGR.out
      have hbw5 := HBW.out.trans (hb05.mono HBW.out.size)
      have hn5' := HRAW.out _ _ hn5
      refine hK.out _ _ ⟨k0, k1, k2⟩ (fun hHeld2 => ?_)
      have HB5 := Lib.hid hbw5
      have HN5 := Lib.hid hn5'
      have HG5 := Lib.hid hg5
      clear hb5 hn5 hb05 hg5 hbw5 hn5' hK K hHeld
      try simp only [Act.put, List.setIfInBounds_toArray, List.set_cons_zero, List.set_cons_succ]
      refine wpAnyT_take 7 (v := ?_) (by kernel_rfl) rfl (by kernel_rfl) (by decide) rfl (by kernel_rfl) (by kernel_rfl) (fun _ _ _ h => h) (Or.inl ⟨by rfl, ?_⟩) (by assumption) ?_
      rotate_left
      · (intro wq hSq; (try dsimp only at hSq); go_simp; try with_reducible rfl)
      try simp only [Act.put, List.setIfInBounds_toArray, List.set_cons_zero, List.set_cons_succ]
      refine wpAnyT_step 8 (by kernel_rfl) rfl (fun K hK => ?_)
      go_simp
      go_at_call 62
      (with_reducible refine (HTR.out _ _ HN5.out).mono ?_)
      rintro e w6 ⟨v6, rfl, hn6, hb6⟩
      obtain ⟨a6, L6, c6, rfl⟩ : ∃ a5 L5 c5, v6 = .slice a5 L5 c5 := by obtain ⟨x, y, h⟩ := reads_len hn6; exact ⟨x, _, y, h⟩
      have hz5 := HB5.out.size
      have i0 := (hb6.cell (p := ⟨w.heap.size, 0, none⟩) (lt_of_cell k0)).trans k0
      have i1 := (hb6.cell (p := ⟨w.heap.size, 1, none⟩) (lt_of_cell k1)).trans k1
      have i2 := (hb6.cell (p := ⟨w.heap.size + 1, 1, none⟩) (lt_of_cell k2)).trans k2
      have hg6 := (hb6.block _ (lt_of_heap HG5.out)).trans HG5.out
      have hbw6 := HB5.out.trans (hb6.mono HB5.out.size)
      refine hK.out _ _ ⟨i0, i1, i2⟩ (fun hHeld3 => ?_)
      have HB6 := Lib.hid hbw6
      have HN6 := Lib.hid hn6
      have HG6 := Lib.hid hg6
      obtain ⟨d0, d1, fz0, fz1⟩ := num_cells hg6
      clear hb6 hn6 hg6 hbw6 hz5 k0 k1 k2 hK K hHeld2
      try simp only [Act.put, List.setIfInBounds_toArray, List.set_cons_zero, List.set_cons_succ]
      refine wpAnyT_last (by kernel_rfl) (by kernel_rfl) rfl (fun K hK => ?_)
      go_simp
      refine hK.out _ _ ?_
      clear hK K hHeld3
      have m2 := num_set HG6.out (.bool S) (.slice a6 L6 c6)
      have hb9 : Below w.heap.size w ((w6.setCell ⟨w.heap.size + 1 + 1, 0, none⟩ (.bool S)).setCell ⟨w.heap.size + 1 + 1, 1, none⟩ (.slice a6 L6 c6)) := (HB6.out.setCell (by simp; omega) _).setCell (by simp; omega) _
      have hn9 := numH_set HN6.out HG6.out (.bool S) (.slice a6 L6 c6)
      obtain ⟨d20, d21, -, -⟩ := num_cells m2
      clear m2 d0 d1 fz0 fz1 i0 i1 i2
      generalize (w6.setCell ⟨w.heap.size + 1 + 1, 0, none⟩ (.bool S)).setCell ⟨w.heap.size + 1 + 1, 1, none⟩ (.slice a6 L6 c6) = W9 at d20 d21 hb9 hn9 ⊢
      have HB9 := Lib.hid hb9
      have HN9 := Lib.hid hn9
      clear hb9 hn9
      go_wp2
      rw [HP.out]
      exact bodyPost_ret (v := .agg #[.bool S, .slice a6 L6 c6]) (by simp [results, Try.results54, go_sem, d20, d21]) rfl ⟨.slice a6 L6 c6, rfl, HN9.out, HB9.out⟩
end Go.Proofs.Ytdfklcmiagmgaaa
