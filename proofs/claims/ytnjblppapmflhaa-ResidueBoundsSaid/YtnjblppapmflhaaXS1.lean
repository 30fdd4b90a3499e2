/- The reference: sums, differences and products of forms. -/
import Derived.Test.YtnjblppapmflhaaXRb
namespace Go.Proofs.Ytnjblppapmflhaa
set_option linter.all false
open Go.RowKit Go.Shelf Go.WideNum
set_option maxRecDepth 100000 in
set_option maxHeartbeats 8000000 in
theorem refAdd_any (na : Bool) (sa : ByteArray) (nb : Bool) (sb : ByteArray) (hsa : sa.size ≤ maxLen) (hsb : sb.size ≤ maxLen) (fb : Bool) (ft : ByteArray) (E : Int) (hop : opF (fun a b => a + b) na sa nb sb = (.agg #[.bool fb, .string ft], E)) (w : World) :
    Calls Try.prog 23 #[.agg #[.bool na, .string sa], .agg #[.bool nb, .string sb]] w fun e w' => e = .returned (.tuple #[.agg #[.bool fb, .string ft], .int .i64 E]) ∧ Below w.heap.size w w' := by
  obtain ⟨HPOST, hpost⟩ : ∃ X : Ending → World → Prop, X = fun e w' => e = .returned (.tuple #[.agg #[.bool fb, .string ft], .int .i64 E]) ∧ Below w.heap.size w w' := ⟨_, rfl⟩
  rw [← hpost]
  obtain ⟨oka, hoka⟩ : ∃ ok, ok = validB na sa := ⟨_, rfl⟩
  obtain ⟨okb, hokb⟩ : ∃ ok, ok = validB nb sb := ⟨_, rfl⟩
  have HVA := Lib.hid (refValid_wide na sa hsa oka hoka)
  have HVB := Lib.hid (refValid_wide nb sb hsb okb hokb)
  have hno : (oka && okb) = false → (.agg #[.bool fb, .string ft], E) = (emptyW, (2 : Int)) := fun h => by
    rw [← hop]; unfold opF; rw [← hoka, ← hokb, h]; rfl
  have hyes : oka = true → okb = true → outZ ((fun a b => a + b) (zV na sa) (zV nb sb)) = .agg #[.bool fb, .string ft] ∧ errZ ((fun a b => a + b) (zV na sa) (zV nb sb)) = E := fun h1 h2 => by
    unfold opF at hop; rw [← hoka, ← hokb, h1, h2] at hop
    injection hop with e1 e2
    exact ⟨e1, e2⟩
  have HNO := Lib.hid hno
  have HYES := Lib.hid hyes
  have HA := Lib.hid hoka
  have HB := Lib.hid hokb
  clear hop hno hyes hoka hokb
  obtain ⟨W0, hW0⟩ : ∃ W0, W0 = ((w.alloc (.cells #[.bool na, .string sa] 38)).alloc (.cells #[.bool nb, .string sb] 38)).alloc (.cells #[.bool false, .string ⟨#[]⟩] 38) := ⟨_, rfl⟩
  have g0 : W0.heap[w.heap.size]? = some (.cells #[.bool na, .string sa] 38) := by rw [hW0, Below.heap_alloc _ _ _ (by simp; omega), Below.heap_alloc _ _ _ (by simp)]; exact heap_alloc_new w _
  have g1 : W0.heap[w.heap.size + 1]? = some (.cells #[.bool nb, .string sb] 38) := by rw [hW0, Below.heap_alloc _ _ _ (by simp)]; exact alloc_last _ _ (by simp)
  have g2 : W0.heap[w.heap.size + 1 + 1]? = some (.cells #[.bool false, .string ⟨#[]⟩] 38) := by rw [hW0]; exact alloc_last _ _ (by simp)
  have hb0 : Below w.heap.size w W0 := by rw [hW0]; exact ((((Below.refl _ w).alloc (Nat.le_refl _) _).alloc (by simp) _).alloc (by simp; omega) _)
  have HB0 := Lib.hid hb0
  have HG0 := Lib.hid g0
  have HG1 := Lib.hid g1
  have HG2 := Lib.hid g2
  obtain ⟨c00, c01, f0⟩ := wide_cells g0
  have HW0 := Lib.hid hW0
  clear hb0 g0 g1 g2 hW0
  go_enter Try.func23, Try.ntmps23
  go_upto_region 1 with (fail)
  rw [← HW0.out]
  rw [hpost]
  rw [← hpost]
  have HP := Lib.hid hpost
  clear hpost
  go_wp2_with fail
  (with_reducible refine (HVA.out _).mono ?_)
  rintro e w1 ⟨rfl, hb1⟩
  have HK0 := Lib.hid (wide_hold (w := W0) HG0.out hb1)
  have HK1 := Lib.hid (wide_hold (w := W0) HG1.out hb1)
  have HK2 := Lib.hid (wide_hold (w := W0) HG2.out hb1)
  have HBW1 := Lib.hid (HB0.out.trans (hb1.mono HB0.out.size))
  clear c00 c01 f0 hb1
  obtain ⟨c10, c11, f1⟩ := wide_cells HK1.out
  obtain ⟨e20, e21, f2⟩ := wide_cells HK2.out
  cases oka with
  | false =>
    have hz := HNO.out rfl
    injection hz with hz1 hz2
    unfold emptyW wideV at hz1
    injection hz1 with hz1
    injection hz1 with hz1
    injection hz1 with hz1 hz3
    injection hz1 with hz1
    injection hz3 with hz3 hz4
    injection hz3 with hz3
    subst hz1 hz2 hz3
    clear hz4 c10 c11 f1
    go_wp2
    have m2 := wide_set HK2.out false ⟨#[]⟩
    have hb9 := below_set2 (p := w.heap.size + 1 + 1) HBW1.out (by omega) false ⟨#[]⟩
    obtain ⟨d20, d21, -⟩ := wide_cells m2
    clear m2 e20 e21 f2
    generalize (w1.setCell ⟨w.heap.size + 1 + 1, 0, none⟩ (.bool false)).setCell ⟨w.heap.size + 1 + 1, 1, none⟩ (.string ⟨#[]⟩) = W9 at d20 d21 hb9 ⊢
    rw [HP.out]
    exact bodyPost_ret (v := .tuple #[.agg #[.bool false, .string ⟨#[]⟩], .int .i64 2]) (by simp [results, Try.results23, go_sem, d20, d21]) rfl ⟨rfl, hb9⟩
  | true =>
    go_wp2_with fail
    (with_reducible refine (HVB.out _).mono ?_)
    rintro e w2 ⟨rfl, hb2⟩
    have HM0 := Lib.hid (wide_hold (w := w1) HK0.out hb2)
    have HM1 := Lib.hid (wide_hold (w := w1) HK1.out hb2)
    have HM2 := Lib.hid (wide_hold (w := w1) HK2.out hb2)
    have HBW2 := Lib.hid (HBW1.out.trans (hb2.mono HBW1.out.size))
    clear c10 c11 f1 e20 e21 f2 hb2
    obtain ⟨e20, e21, f2⟩ := wide_cells HM2.out
    cases okb with
    | false =>
      have hz := HNO.out rfl
      injection hz with hz1 hz2
      unfold emptyW wideV at hz1
      injection hz1 with hz1
      injection hz1 with hz1
      injection hz1 with hz1 hz3
      injection hz1 with hz1
      injection hz3 with hz3 hz4
      injection hz3 with hz3
      subst hz1 hz2 hz3
      clear hz4
      go_wp2
      have m2 := wide_set HM2.out false ⟨#[]⟩
      have hb9 := below_set2 (p := w.heap.size + 1 + 1) HBW2.out (by omega) false ⟨#[]⟩
      obtain ⟨d20, d21, -⟩ := wide_cells m2
      clear m2 e20 e21 f2
      generalize (w2.setCell ⟨w.heap.size + 1 + 1, 0, none⟩ (.bool false)).setCell ⟨w.heap.size + 1 + 1, 1, none⟩ (.string ⟨#[]⟩) = W9 at d20 d21 hb9 ⊢
      rw [HP.out]
      exact bodyPost_ret (v := .tuple #[.agg #[.bool false, .string ⟨#[]⟩], .int .i64 2]) (by simp [results, Try.results23, go_sem, d20, d21]) rfl ⟨rfl, hb9⟩
    | true =>
      obtain ⟨l1, -, -, -⟩ := valid_spec na sa HA.out.symm
      obtain ⟨l2, -, -, -⟩ := valid_spec nb sb HB.out.symm
      have HINA := Lib.hid (in_any na sa HA.out.symm)
      have HINB := Lib.hid (in_any nb sb HB.out.symm)
      obtain ⟨hy1, hy2⟩ := HYES.out (by simp) (by simp)
      unfold zV at hy1 hy2
      have hwa := hw_len129 l1
      have hwb := hw_len129 l2
      obtain ⟨A, eA⟩ : ∃ A, A = numB sa := ⟨_, rfl⟩
      obtain ⟨C, eC⟩ : ∃ C, C = numB sb := ⟨_, rfl⟩
      rw [← eA] at hy1 hy2 hwa HINA
      rw [← eC] at hy1 hy2 hwb HINB
      clear eA eC l1 l2
      obtain ⟨S, hS⟩ : ∃ S, S = (sumS A na C nb && decide (sumN A na C nb ≠ 0)) := ⟨_, rfl⟩
      obtain ⟨M, hM⟩ : ∃ M, M = sumN A na C nb := ⟨_, rfl⟩
      have HADD : Hid (∀ W va vb, World.numH W va A → World.numH W vb C → Calls Try.prog 56 #[.agg #[.bool na, va], .agg #[.bool nb, vb]] W (SRet W S M)) := fun W va vb h1 h2 => by rw [hS, hM]; exact hadd_any na A va nb C vb W h1 h2 (by omega) (by omega)
      have hz : zOf S M = zOf na A + zOf nb C := by rw [hS, hM, zOf_and]; exact sum_z A na C nb
      have hML : (hw M).length ≤ 4001 := hw_len_sum (A := A) (C := C) (by omega) (by omega) (by rw [hM]; exact sumN_le _ _ _ _)
      have HOUT : Hid (∀ v W, World.numH W v M → Calls Try.prog 55 #[.agg #[.bool S, v]] W fun e w' => e = .returned (.tuple #[.agg #[.bool fb, .string ft], .int .i64 E]) ∧ Below W.heap.size W w') := fun v W h => hout_num S M (by omega) fb ft E (by rw [hz]; exact hy1) (by rw [hz]; exact hy2) v W h
      clear hS hM hz hML
      clear e20 e21 f2 hwa hwb hy1 hy2
      obtain ⟨c00, c01, -⟩ := wide_cells HM0.out
      obtain ⟨c10, c11, -⟩ := wide_cells HM1.out
      go_wp2_with fail
      refine wp_region_late (fun w' => w'.cell? ⟨w.heap.size, 0, none⟩ = some (.bool na) ∧ w'.cell? ⟨w.heap.size, 1, none⟩ = some (.string sa) ∧ w'.cell? ⟨w.heap.size + 1, 0, none⟩ = some (.bool nb) ∧ w'.cell? ⟨w.heap.size + 1, 1, none⟩ = some (.string sb)) (fun j => decide (j = 8)) (by kernel_rfl) ⟨c00, c01, c10, c11⟩ (fun hHeld => ?_)
      refine wpAnyD_take 0 (v := ?_) (by kernel_rfl) (by kernel_rfl) rfl (by kernel_rfl) (by kernel_rfl) (fun _ _ _ h => h) (Or.inl ⟨by rfl, ?_⟩) (by assumption) ?_
      rotate_left
      · (intro wq hSq; (try dsimp only at hSq); go_simp; try with_reducible rfl)
      try simp only [Act.put, List.setIfInBounds_toArray, List.set_cons_zero, List.set_cons_succ]
      refine wpAnyD_take 2 (v := ?_) (by kernel_rfl) (by kernel_rfl) rfl (by kernel_rfl) (by kernel_rfl) (fun _ _ _ h => h) (Or.inl ⟨by rfl, ?_⟩) (by assumption) ?_
      rotate_left
      · (intro wq hSq; (try dsimp only at hSq); go_simp; try with_reducible rfl)
      try simp only [Act.put, List.setIfInBounds_toArray, List.set_cons_zero, List.set_cons_succ]
      have HD := Lib.hid ((Below.refl w2.heap.size w2).drew)
      have HBD := Lib.hid (HBW2.out.drew)
      have HQ0 : Hid (w2.drew.heap[w.heap.size]? = some (.cells #[.bool na, .string sa] 38)) := HM0.out
      have HQ1 : Hid (w2.drew.heap[w.heap.size + 1]? = some (.cells #[.bool nb, .string sb] 38)) := HM1.out
      have HQ2 : Hid (w2.drew.heap[w.heap.size + 1 + 1]? = some (.cells #[.bool false, .string ⟨#[]⟩] 38)) := HM2.out
      clear c00 c01 c10 c11
      refine wpAnyD_keep 1 (by kernel_rfl) rfl (fun K hK => ?_)
      go_simp
      go_at_call 57
      (with_reducible refine (HINA.out _).mono ?_)
      rintro e w5 ⟨v5, rfl, hn5, hb5⟩
      obtain ⟨a5, L5, c5, rfl⟩ : ∃ a L c, v5 = .slice a L c := by obtain ⟨x, y, h⟩ := reads_len hn5; exact ⟨x, _, y, h⟩
      have hx0 := wide_hold (w := w2.drew) HQ0.out hb5
      have hx1 := wide_hold (w := w2.drew) HQ1.out hb5
      have hx2 := wide_hold (w := w2.drew) HQ2.out hb5
      have HBX0 := Lib.hid (HBD.out.trans (hb5.mono HBD.out.size))
      obtain ⟨j0, j1, -⟩ := wide_cells hx0
      obtain ⟨j2, j3, -⟩ := wide_cells hx1
      refine hK.out _ _ ⟨j0, j1, j2, j3⟩ (fun hHeld0 => ?_)
      have HX00 := Lib.hid hx0
      have HX01 := Lib.hid hx1
      have HX02 := Lib.hid hx2
      have HN0_n := Lib.hid hn5
      clear hb5 hn5 hx0 hx1 hx2 j0 j1 j2 j3 hK K hHeld
      try simp only [Act.put, List.setIfInBounds_toArray, List.set_cons_zero, List.set_cons_succ]
      refine wpAnyD_keep 3 (by kernel_rfl) rfl (fun K hK => ?_)
      go_simp
      go_at_call 57
      (with_reducible refine (HINB.out _).mono ?_)
      rintro e w6 ⟨v6, rfl, hn6, hb6⟩
      obtain ⟨a6, L6, c6, rfl⟩ : ∃ a L c, v6 = .slice a L c := by obtain ⟨x, y, h⟩ := reads_len hn6; exact ⟨x, _, y, h⟩
      have hx0 := wide_hold (w := w5) HX00.out hb6
      have hx1 := wide_hold (w := w5) HX01.out hb6
      have hx2 := wide_hold (w := w5) HX02.out hb6
      have HBX1 := Lib.hid (HBX0.out.trans (hb6.mono HBX0.out.size))
      obtain ⟨j0, j1, -⟩ := wide_cells hx0
      obtain ⟨j2, j3, -⟩ := wide_cells hx1
      refine hK.out _ _ ⟨j0, j1, j2, j3⟩ (fun hHeld1 => ?_)
      have HX10 := Lib.hid hx0
      have HX11 := Lib.hid hx1
      have HX12 := Lib.hid hx2
      have HN1_0 := Lib.hid (numH_below (HN0_n.out) hb6)
      have HN1_n := Lib.hid hn6
      clear hb6 hn6 hx0 hx1 hx2 j0 j1 j2 j3 hK K hHeld0
      try simp only [Act.put, List.setIfInBounds_toArray, List.set_cons_zero, List.set_cons_succ]
      refine wpAnyD_keep 4 (by kernel_rfl) rfl (fun K hK => ?_)
      go_simp
      go_at_call 56
      (with_reducible refine (HADD.out _ _ _ (HN1_0.out) (HN1_n.out)).mono ?_)
      rintro e w7 ⟨v7, rfl, hn7, hb7⟩
      obtain ⟨a7, L7, c7, rfl⟩ : ∃ a L c, v7 = .slice a L c := by obtain ⟨x, y, h⟩ := reads_len hn7; exact ⟨x, _, y, h⟩
      have hx0 := wide_hold (w := w6) HX10.out hb7
      have hx1 := wide_hold (w := w6) HX11.out hb7
      have hx2 := wide_hold (w := w6) HX12.out hb7
      have HBX2 := Lib.hid (HBX1.out.trans (hb7.mono HBX1.out.size))
      obtain ⟨j0, j1, -⟩ := wide_cells hx0
      obtain ⟨j2, j3, -⟩ := wide_cells hx1
      refine hK.out _ _ ⟨j0, j1, j2, j3⟩ (fun hHeld2 => ?_)
      have HX20 := Lib.hid hx0
      have HX21 := Lib.hid hx1
      have HX22 := Lib.hid hx2
      have HN2_0 := Lib.hid (numH_below (HN1_0.out) hb7)
      have HN2_1 := Lib.hid (numH_below (HN1_n.out) hb7)
      have HN2_n := Lib.hid hn7
      clear hb7 hn7 hx0 hx1 hx2 j0 j1 j2 j3 hK K hHeld1
      try simp only [Act.put, List.setIfInBounds_toArray, List.set_cons_zero, List.set_cons_succ]
      refine wpAnyD_keep 5 (by kernel_rfl) rfl (fun K hK => ?_)
      go_simp
      go_at_call 55
      (with_reducible refine (HOUT.out _ _ (HN2_n.out)).mono ?_)
      rintro e w8 ⟨rfl, hb8⟩
      have hx0 := wide_hold (w := w7) HX20.out hb8
      have hx1 := wide_hold (w := w7) HX21.out hb8
      have hx2 := wide_hold (w := w7) HX22.out hb8
      have HBX3 := Lib.hid (HBX2.out.trans (hb8.mono HBX2.out.size))
      obtain ⟨j0, j1, -⟩ := wide_cells hx0
      obtain ⟨j2, j3, -⟩ := wide_cells hx1
      refine hK.out _ _ ⟨j0, j1, j2, j3⟩ (fun hHeld3 => ?_)
      have HX30 := Lib.hid hx0
      have HX31 := Lib.hid hx1
      have HX32 := Lib.hid hx2
      have HN3_0 := Lib.hid (numH_below (HN2_0.out) hb8)
      have HN3_1 := Lib.hid (numH_below (HN2_1.out) hb8)
      have HN3_2 := Lib.hid (numH_below (HN2_n.out) hb8)
      clear hb8 hx0 hx1 hx2 j0 j1 j2 j3 hK K hHeld2
      try simp only [Act.put, List.setIfInBounds_toArray, List.set_cons_zero, List.set_cons_succ]
      refine wpAnyD_take 6 (v := ?_) (by kernel_rfl) (by kernel_rfl) rfl (by kernel_rfl) (by kernel_rfl) (fun _ _ _ h => h) (Or.inl ⟨by rfl, ?_⟩) (by assumption) ?_
      rotate_left
      · (intro wq hSq; (try dsimp only at hSq); go_simp; try with_reducible rfl)
      try simp only [Act.put, List.setIfInBounds_toArray, List.set_cons_zero, List.set_cons_succ]
      refine wpAnyD_take 7 (v := ?_) (by kernel_rfl) (by kernel_rfl) rfl (by kernel_rfl) (by kernel_rfl) (fun _ _ _ h => h) (Or.inl ⟨by rfl, ?_⟩) (by assumption) ?_
      rotate_left
      · (intro wq hSq; (try dsimp only at hSq); go_simp; try with_reducible rfl)
      try simp only [Act.put, List.setIfInBounds_toArray, List.set_cons_zero, List.set_cons_succ]
      obtain ⟨d0, d1, fz⟩ := wide_cells HX32.out
      refine wpAnyD_step 8 (by kernel_rfl) rfl rfl (fun K hK => ?_)
      go_simp
      refine hK.out _ _ ?_
      clear hK K hHeld3
      try simp only [Act.put, List.setIfInBounds_toArray, List.set_cons_zero, List.set_cons_succ]
      refine wpAnyD_takeW 9 (v := ?_) (by kernel_rfl) rfl (by kernel_rfl) (by kernel_rfl) (fun _ _ _ h => h) (Or.inl ⟨by rfl, ?_⟩) ?_
      rotate_left
      · (intro wq hSq; (try dsimp only at hSq); go_simp; try with_reducible rfl)
      try simp only [Act.put, List.setIfInBounds_toArray, List.set_cons_zero, List.set_cons_succ]
      refine wpAnyD_end (by kernel_rfl) ?_
      have m2 := wide_set HX32.out fb ft
      have hb9 := below_set2 (p := w.heap.size + 1 + 1) HBX3.out (by omega) fb ft
      clear d0 d1 fz
      obtain ⟨d20, d21, -⟩ := wide_cells m2
      clear m2
      generalize (w8.setCell ⟨w.heap.size + 1 + 1, 0, none⟩ (.bool fb)).setCell ⟨w.heap.size + 1 + 1, 1, none⟩ (.string ft) = W9 at d20 d21 hb9 ⊢
      go_wp2
      rw [HP.out]
      exact bodyPost_ret (v := .tuple #[.agg #[.bool fb, .string ft], .int .i64 E]) (by simp [results, Try.results23, go_sem, d20, d21]) rfl ⟨rfl, hb9⟩
set_option maxRecDepth 100000 in
set_option maxHeartbeats 8000000 in
theorem refSub_any (na : Bool) (sa : ByteArray) (nb : Bool) (sb : ByteArray) (hsa : sa.size ≤ maxLen) (hsb : sb.size ≤ maxLen) (fb : Bool) (ft : ByteArray) (E : Int) (hop : opF (fun a b => a - b) na sa nb sb = (.agg #[.bool fb, .string ft], E)) (w : World) :
    Calls Try.prog 29 #[.agg #[.bool na, .string sa], .agg #[.bool nb, .string sb]] w fun e w' => e = .returned (.tuple #[.agg #[.bool fb, .string ft], .int .i64 E]) ∧ Below w.heap.size w w' := by
  obtain ⟨HPOST, hpost⟩ : ∃ X : Ending → World → Prop, X = fun e w' => e = .returned (.tuple #[.agg #[.bool fb, .string ft], .int .i64 E]) ∧ Below w.heap.size w w' := ⟨_, rfl⟩
  rw [← hpost]
  obtain ⟨oka, hoka⟩ : ∃ ok, ok = validB na sa := ⟨_, rfl⟩
  obtain ⟨okb, hokb⟩ : ∃ ok, ok = validB nb sb := ⟨_, rfl⟩
  have HVA := Lib.hid (refValid_wide na sa hsa oka hoka)
  have HVB := Lib.hid (refValid_wide nb sb hsb okb hokb)
  have hno : (oka && okb) = false → (.agg #[.bool fb, .string ft], E) = (emptyW, (2 : Int)) := fun h => by
    rw [← hop]; unfold opF; rw [← hoka, ← hokb, h]; rfl
  have hyes : oka = true → okb = true → outZ ((fun a b => a - b) (zV na sa) (zV nb sb)) = .agg #[.bool fb, .string ft] ∧ errZ ((fun a b => a - b) (zV na sa) (zV nb sb)) = E := fun h1 h2 => by
    unfold opF at hop; rw [← hoka, ← hokb, h1, h2] at hop
    injection hop with e1 e2
    exact ⟨e1, e2⟩
  have HNO := Lib.hid hno
  have HYES := Lib.hid hyes
  have HA := Lib.hid hoka
  have HB := Lib.hid hokb
  clear hop hno hyes hoka hokb
  obtain ⟨W0, hW0⟩ : ∃ W0, W0 = ((w.alloc (.cells #[.bool na, .string sa] 38)).alloc (.cells #[.bool nb, .string sb] 38)).alloc (.cells #[.bool false, .string ⟨#[]⟩] 38) := ⟨_, rfl⟩
  have g0 : W0.heap[w.heap.size]? = some (.cells #[.bool na, .string sa] 38) := by rw [hW0, Below.heap_alloc _ _ _ (by simp; omega), Below.heap_alloc _ _ _ (by simp)]; exact heap_alloc_new w _
  have g1 : W0.heap[w.heap.size + 1]? = some (.cells #[.bool nb, .string sb] 38) := by rw [hW0, Below.heap_alloc _ _ _ (by simp)]; exact alloc_last _ _ (by simp)
  have g2 : W0.heap[w.heap.size + 1 + 1]? = some (.cells #[.bool false, .string ⟨#[]⟩] 38) := by rw [hW0]; exact alloc_last _ _ (by simp)
  have hb0 : Below w.heap.size w W0 := by rw [hW0]; exact ((((Below.refl _ w).alloc (Nat.le_refl _) _).alloc (by simp) _).alloc (by simp; omega) _)
  have HB0 := Lib.hid hb0
  have HG0 := Lib.hid g0
  have HG1 := Lib.hid g1
  have HG2 := Lib.hid g2
  obtain ⟨c00, c01, f0⟩ := wide_cells g0
  have HW0 := Lib.hid hW0
  clear hb0 g0 g1 g2 hW0
  go_enter Try.func29, Try.ntmps29
  go_upto_region 1 with (fail)
  rw [← HW0.out]
  rw [hpost]
  rw [← hpost]
  have HP := Lib.hid hpost
  clear hpost
  go_wp2_with fail
  (with_reducible refine (HVA.out _).mono ?_)
  rintro e w1 ⟨rfl, hb1⟩
  have HK0 := Lib.hid (wide_hold (w := W0) HG0.out hb1)
  have HK1 := Lib.hid (wide_hold (w := W0) HG1.out hb1)
  have HK2 := Lib.hid (wide_hold (w := W0) HG2.out hb1)
  have HBW1 := Lib.hid (HB0.out.trans (hb1.mono HB0.out.size))
  clear c00 c01 f0 hb1
  obtain ⟨c10, c11, f1⟩ := wide_cells HK1.out
  obtain ⟨e20, e21, f2⟩ := wide_cells HK2.out
  cases oka with
  | false =>
    have hz := HNO.out rfl
    injection hz with hz1 hz2
    unfold emptyW wideV at hz1
    injection hz1 with hz1
    injection hz1 with hz1
    injection hz1 with hz1 hz3
    injection hz1 with hz1
    injection hz3 with hz3 hz4
    injection hz3 with hz3
    subst hz1 hz2 hz3
    clear hz4 c10 c11 f1
    go_wp2
    have m2 := wide_set HK2.out false ⟨#[]⟩
    have hb9 := below_set2 (p := w.heap.size + 1 + 1) HBW1.out (by omega) false ⟨#[]⟩
    obtain ⟨d20, d21, -⟩ := wide_cells m2
    clear m2 e20 e21 f2
    generalize (w1.setCell ⟨w.heap.size + 1 + 1, 0, none⟩ (.bool false)).setCell ⟨w.heap.size + 1 + 1, 1, none⟩ (.string ⟨#[]⟩) = W9 at d20 d21 hb9 ⊢
    rw [HP.out]
    exact bodyPost_ret (v := .tuple #[.agg #[.bool false, .string ⟨#[]⟩], .int .i64 2]) (by simp [results, Try.results29, go_sem, d20, d21]) rfl ⟨rfl, hb9⟩
  | true =>
    go_wp2_with fail
    (with_reducible refine (HVB.out _).mono ?_)
    rintro e w2 ⟨rfl, hb2⟩
    have HM0 := Lib.hid (wide_hold (w := w1) HK0.out hb2)
    have HM1 := Lib.hid (wide_hold (w := w1) HK1.out hb2)
    have HM2 := Lib.hid (wide_hold (w := w1) HK2.out hb2)
    have HBW2 := Lib.hid (HBW1.out.trans (hb2.mono HBW1.out.size))
    clear c10 c11 f1 e20 e21 f2 hb2
    obtain ⟨e20, e21, f2⟩ := wide_cells HM2.out
    cases okb with
    | false =>
      have hz := HNO.out rfl
      injection hz with hz1 hz2
      unfold emptyW wideV at hz1
      injection hz1 with hz1
      injection hz1 with hz1
      injection hz1 with hz1 hz3
      injection hz1 with hz1
      injection hz3 with hz3 hz4
      injection hz3 with hz3
      subst hz1 hz2 hz3
      clear hz4
      go_wp2
      have m2 := wide_set HM2.out false ⟨#[]⟩
      have hb9 := below_set2 (p := w.heap.size + 1 + 1) HBW2.out (by omega) false ⟨#[]⟩
      obtain ⟨d20, d21, -⟩ := wide_cells m2
      clear m2 e20 e21 f2
      generalize (w2.setCell ⟨w.heap.size + 1 + 1, 0, none⟩ (.bool false)).setCell ⟨w.heap.size + 1 + 1, 1, none⟩ (.string ⟨#[]⟩) = W9 at d20 d21 hb9 ⊢
      rw [HP.out]
      exact bodyPost_ret (v := .tuple #[.agg #[.bool false, .string ⟨#[]⟩], .int .i64 2]) (by simp [results, Try.results29, go_sem, d20, d21]) rfl ⟨rfl, hb9⟩
    | true =>
      obtain ⟨l1, -, -, -⟩ := valid_spec na sa HA.out.symm
      obtain ⟨l2, -, -, -⟩ := valid_spec nb sb HB.out.symm
      have HINA := Lib.hid (in_any na sa HA.out.symm)
      have HINB := Lib.hid (in_any nb sb HB.out.symm)
      obtain ⟨hy1, hy2⟩ := HYES.out (by simp) (by simp)
      unfold zV at hy1 hy2
      have hwa := hw_len129 l1
      have hwb := hw_len129 l2
      obtain ⟨A, eA⟩ : ∃ A, A = numB sa := ⟨_, rfl⟩
      obtain ⟨C, eC⟩ : ∃ C, C = numB sb := ⟨_, rfl⟩
      rw [← eA] at hy1 hy2 hwa HINA
      rw [← eC] at hy1 hy2 hwb HINB
      clear eA eC l1 l2
      obtain ⟨nc, hnc⟩ : ∃ s, s = (!nb && decide (C ≠ 0)) := ⟨_, rfl⟩
      have HNEG : Hid (∀ W v, World.numH W v C → Calls Try.prog 61 #[.agg #[.bool nb, v]] W (SRet W nc C)) := fun W v h => by rw [hnc]; exact negative_any nb C _ (hw_vlt C) (by omega) v W (numH_raw h)
      obtain ⟨S, hS⟩ : ∃ S, S = (sumS A na C nc && decide (sumN A na C nc ≠ 0)) := ⟨_, rfl⟩
      obtain ⟨M, hM⟩ : ∃ M, M = sumN A na C nc := ⟨_, rfl⟩
      have HADD : Hid (∀ W va vb, World.numH W va A → World.numH W vb C → Calls Try.prog 56 #[.agg #[.bool na, va], .agg #[.bool nc, vb]] W (SRet W S M)) := fun W va vb h1 h2 => by rw [hS, hM]; exact hadd_any na A va nc C vb W h1 h2 (by omega) (by omega)
      have hz : zOf S M = zOf na A - zOf nb C := by
        rw [hS, hM, zOf_and]
        refine (sum_z A na C nc).trans ?_
        rw [hnc, zOf_and]
        unfold zOf
        cases nb <;> simp <;> omega
      have hML : (hw M).length ≤ 4001 := hw_len_sum (A := A) (C := C) (by omega) (by omega) (by rw [hM]; exact sumN_le _ _ _ _)
      have HOUT : Hid (∀ v W, World.numH W v M → Calls Try.prog 55 #[.agg #[.bool S, v]] W fun e w' => e = .returned (.tuple #[.agg #[.bool fb, .string ft], .int .i64 E]) ∧ Below W.heap.size W w') := fun v W h => hout_num S M (by omega) fb ft E (by rw [hz]; exact hy1) (by rw [hz]; exact hy2) v W h
      clear hS hM hz hML hnc
      clear e20 e21 f2 hwa hwb hy1 hy2
      obtain ⟨c00, c01, -⟩ := wide_cells HM0.out
      obtain ⟨c10, c11, -⟩ := wide_cells HM1.out
      go_wp2_with fail
      refine wp_region_late (fun w' => w'.cell? ⟨w.heap.size, 0, none⟩ = some (.bool na) ∧ w'.cell? ⟨w.heap.size, 1, none⟩ = some (.string sa) ∧ w'.cell? ⟨w.heap.size + 1, 0, none⟩ = some (.bool nb) ∧ w'.cell? ⟨w.heap.size + 1, 1, none⟩ = some (.string sb)) (fun j => decide (j = 9)) (by kernel_rfl) ⟨c00, c01, c10, c11⟩ (fun hHeld => ?_)
      refine wpAnyD_take 0 (v := ?_) (by kernel_rfl) (by kernel_rfl) rfl (by kernel_rfl) (by kernel_rfl) (fun _ _ _ h => h) (Or.inl ⟨by rfl, ?_⟩) (by assumption) ?_
      rotate_left
      · (intro wq hSq; (try dsimp only at hSq); go_simp; try with_reducible rfl)
      try simp only [Act.put, List.setIfInBounds_toArray, List.set_cons_zero, List.set_cons_succ]
      refine wpAnyD_take 2 (v := ?_) (by kernel_rfl) (by kernel_rfl) rfl (by kernel_rfl) (by kernel_rfl) (fun _ _ _ h => h) (Or.inl ⟨by rfl, ?_⟩) (by assumption) ?_
      rotate_left
      · (intro wq hSq; (try dsimp only at hSq); go_simp; try with_reducible rfl)
      try simp only [Act.put, List.setIfInBounds_toArray, List.set_cons_zero, List.set_cons_succ]
      have HD := Lib.hid ((Below.refl w2.heap.size w2).drew)
      have HBD := Lib.hid (HBW2.out.drew)
      have HQ0 : Hid (w2.drew.heap[w.heap.size]? = some (.cells #[.bool na, .string sa] 38)) := HM0.out
      have HQ1 : Hid (w2.drew.heap[w.heap.size + 1]? = some (.cells #[.bool nb, .string sb] 38)) := HM1.out
      have HQ2 : Hid (w2.drew.heap[w.heap.size + 1 + 1]? = some (.cells #[.bool false, .string ⟨#[]⟩] 38)) := HM2.out
      clear c00 c01 c10 c11
      refine wpAnyD_keep 1 (by kernel_rfl) rfl (fun K hK => ?_)
      go_simp
      go_at_call 57
      (with_reducible refine (HINA.out _).mono ?_)
      rintro e w5 ⟨v5, rfl, hn5, hb5⟩
      obtain ⟨a5, L5, c5, rfl⟩ : ∃ a L c, v5 = .slice a L c := by obtain ⟨x, y, h⟩ := reads_len hn5; exact ⟨x, _, y, h⟩
      have hx0 := wide_hold (w := w2.drew) HQ0.out hb5
      have hx1 := wide_hold (w := w2.drew) HQ1.out hb5
      have hx2 := wide_hold (w := w2.drew) HQ2.out hb5
      have HBX0 := Lib.hid (HBD.out.trans (hb5.mono HBD.out.size))
      obtain ⟨j0, j1, -⟩ := wide_cells hx0
      obtain ⟨j2, j3, -⟩ := wide_cells hx1
      refine hK.out _ _ ⟨j0, j1, j2, j3⟩ (fun hHeld0 => ?_)
      have HX00 := Lib.hid hx0
      have HX01 := Lib.hid hx1
      have HX02 := Lib.hid hx2
      have HN0_n := Lib.hid hn5
      clear hb5 hn5 hx0 hx1 hx2 j0 j1 j2 j3 hK K hHeld
      try simp only [Act.put, List.setIfInBounds_toArray, List.set_cons_zero, List.set_cons_succ]
      refine wpAnyD_keep 3 (by kernel_rfl) rfl (fun K hK => ?_)
      go_simp
      go_at_call 57
      (with_reducible refine (HINB.out _).mono ?_)
      rintro e w6 ⟨v6, rfl, hn6, hb6⟩
      obtain ⟨a6, L6, c6, rfl⟩ : ∃ a L c, v6 = .slice a L c := by obtain ⟨x, y, h⟩ := reads_len hn6; exact ⟨x, _, y, h⟩
      have hx0 := wide_hold (w := w5) HX00.out hb6
      have hx1 := wide_hold (w := w5) HX01.out hb6
      have hx2 := wide_hold (w := w5) HX02.out hb6
      have HBX1 := Lib.hid (HBX0.out.trans (hb6.mono HBX0.out.size))
      obtain ⟨j0, j1, -⟩ := wide_cells hx0
      obtain ⟨j2, j3, -⟩ := wide_cells hx1
      refine hK.out _ _ ⟨j0, j1, j2, j3⟩ (fun hHeld1 => ?_)
      have HX10 := Lib.hid hx0
      have HX11 := Lib.hid hx1
      have HX12 := Lib.hid hx2
      have HN1_0 := Lib.hid (numH_below (HN0_n.out) hb6)
      have HN1_n := Lib.hid hn6
      clear hb6 hn6 hx0 hx1 hx2 j0 j1 j2 j3 hK K hHeld0
      try simp only [Act.put, List.setIfInBounds_toArray, List.set_cons_zero, List.set_cons_succ]
      refine wpAnyD_keep 4 (by kernel_rfl) rfl (fun K hK => ?_)
      go_simp
      go_at_call 61
      (with_reducible refine (HNEG.out _ _ (HN1_n.out)).mono ?_)
      rintro e w7 ⟨v7, rfl, hn7, hb7⟩
      obtain ⟨a7, L7, c7, rfl⟩ : ∃ a L c, v7 = .slice a L c := by obtain ⟨x, y, h⟩ := reads_len hn7; exact ⟨x, _, y, h⟩
      have hx0 := wide_hold (w := w6) HX10.out hb7
      have hx1 := wide_hold (w := w6) HX11.out hb7
      have hx2 := wide_hold (w := w6) HX12.out hb7
      have HBX2 := Lib.hid (HBX1.out.trans (hb7.mono HBX1.out.size))
      obtain ⟨j0, j1, -⟩ := wide_cells hx0
      obtain ⟨j2, j3, -⟩ := wide_cells hx1
      refine hK.out _ _ ⟨j0, j1, j2, j3⟩ (fun hHeld2 => ?_)
      have HX20 := Lib.hid hx0
      have HX21 := Lib.hid hx1
      have HX22 := Lib.hid hx2
      have HN2_0 := Lib.hid (numH_below (HN1_0.out) hb7)
      have HN2_1 := Lib.hid (numH_below (HN1_n.out) hb7)
      have HN2_n := Lib.hid hn7
      clear hb7 hn7 hx0 hx1 hx2 j0 j1 j2 j3 hK K hHeld1
      try simp only [Act.put, List.setIfInBounds_toArray, List.set_cons_zero, List.set_cons_succ]
      refine wpAnyD_keep 5 (by kernel_rfl) rfl (fun K hK => ?_)
      go_simp
      go_at_call 56
      (with_reducible refine (HADD.out _ _ _ (HN2_0.out) (HN2_n.out)).mono ?_)
      rintro e w8 ⟨v8, rfl, hn8, hb8⟩
      obtain ⟨a8, L8, c8, rfl⟩ : ∃ a L c, v8 = .slice a L c := by obtain ⟨x, y, h⟩ := reads_len hn8; exact ⟨x, _, y, h⟩
      have hx0 := wide_hold (w := w7) HX20.out hb8
      have hx1 := wide_hold (w := w7) HX21.out hb8
      have hx2 := wide_hold (w := w7) HX22.out hb8
      have HBX3 := Lib.hid (HBX2.out.trans (hb8.mono HBX2.out.size))
      obtain ⟨j0, j1, -⟩ := wide_cells hx0
      obtain ⟨j2, j3, -⟩ := wide_cells hx1
      refine hK.out _ _ ⟨j0, j1, j2, j3⟩ (fun hHeld3 => ?_)
      have HX30 := Lib.hid hx0
      have HX31 := Lib.hid hx1
      have HX32 := Lib.hid hx2
      have HN3_0 := Lib.hid (numH_below (HN2_0.out) hb8)
      have HN3_1 := Lib.hid (numH_below (HN2_1.out) hb8)
      have HN3_2 := Lib.hid (numH_below (HN2_n.out) hb8)
      have HN3_n := Lib.hid hn8
      clear hb8 hn8 hx0 hx1 hx2 j0 j1 j2 j3 hK K hHeld2
      try simp only [Act.put, List.setIfInBounds_toArray, List.set_cons_zero, List.set_cons_succ]
      refine wpAnyD_keep 6 (by kernel_rfl) rfl (fun K hK => ?_)
      go_simp
      go_at_call 55
      (with_reducible refine (HOUT.out _ _ (HN3_n.out)).mono ?_)
      rintro e w9 ⟨rfl, hb9⟩
      have hx0 := wide_hold (w := w8) HX30.out hb9
      have hx1 := wide_hold (w := w8) HX31.out hb9
      have hx2 := wide_hold (w := w8) HX32.out hb9
      have HBX4 := Lib.hid (HBX3.out.trans (hb9.mono HBX3.out.size))
      obtain ⟨j0, j1, -⟩ := wide_cells hx0
      obtain ⟨j2, j3, -⟩ := wide_cells hx1
      refine hK.out _ _ ⟨j0, j1, j2, j3⟩ (fun hHeld4 => ?_)
      have HX40 := Lib.hid hx0
      have HX41 := Lib.hid hx1
      have HX42 := Lib.hid hx2
      have HN4_0 := Lib.hid (numH_below (HN3_0.out) hb9)
      have HN4_1 := Lib.hid (numH_below (HN3_1.out) hb9)
      have HN4_2 := Lib.hid (numH_below (HN3_2.out) hb9)
      have HN4_3 := Lib.hid (numH_below (HN3_n.out) hb9)
      clear hb9 hx0 hx1 hx2 j0 j1 j2 j3 hK K hHeld3
      try simp only [Act.put, List.setIfInBounds_toArray, List.set_cons_zero, List.set_cons_succ]
      refine wpAnyD_take 7 (v := ?_) (by kernel_rfl) (by kernel_rfl) rfl (by kernel_rfl) (by kernel_rfl) (fun _ _ _ h => h) (Or.inl ⟨by rfl, ?_⟩) (by assumption) ?_
      rotate_left
      · (intro wq hSq; (try dsimp only at hSq); go_simp; try with_reducible rfl)
      try simp only [Act.put, List.setIfInBounds_toArray, List.set_cons_zero, List.set_cons_succ]
      refine wpAnyD_take 8 (v := ?_) (by kernel_rfl) (by kernel_rfl) rfl (by kernel_rfl) (by kernel_rfl) (fun _ _ _ h => h) (Or.inl ⟨by rfl, ?_⟩) (by assumption) ?_
      rotate_left
      · (intro wq hSq; (try dsimp only at hSq); go_simp; try with_reducible rfl)
      try simp only [Act.put, List.setIfInBounds_toArray, List.set_cons_zero, List.set_cons_succ]
      obtain ⟨d0, d1, fz⟩ := wide_cells HX42.out
      refine wpAnyD_step 9 (by kernel_rfl) rfl rfl (fun K hK => ?_)
      go_simp
      refine hK.out _ _ ?_
      clear hK K hHeld4
      try simp only [Act.put, List.setIfInBounds_toArray, List.set_cons_zero, List.set_cons_succ]
      refine wpAnyD_takeW 10 (v := ?_) (by kernel_rfl) rfl (by kernel_rfl) (by kernel_rfl) (fun _ _ _ h => h) (Or.inl ⟨by rfl, ?_⟩) ?_
      rotate_left
      · (intro wq hSq; (try dsimp only at hSq); go_simp; try with_reducible rfl)
      try simp only [Act.put, List.setIfInBounds_toArray, List.set_cons_zero, List.set_cons_succ]
      refine wpAnyD_end (by kernel_rfl) ?_
      have m2 := wide_set HX42.out fb ft
      have hb9 := below_set2 (p := w.heap.size + 1 + 1) HBX4.out (by omega) fb ft
      clear d0 d1 fz
      obtain ⟨d20, d21, -⟩ := wide_cells m2
      clear m2
      generalize (w9.setCell ⟨w.heap.size + 1 + 1, 0, none⟩ (.bool fb)).setCell ⟨w.heap.size + 1 + 1, 1, none⟩ (.string ft) = W9 at d20 d21 hb9 ⊢
      go_wp2
      rw [HP.out]
      exact bodyPost_ret (v := .tuple #[.agg #[.bool fb, .string ft], .int .i64 E]) (by simp [results, Try.results29, go_sem, d20, d21]) rfl ⟨rfl, hb9⟩
set_option maxRecDepth 100000 in
set_option maxHeartbeats 8000000 in
theorem refMul_any (na : Bool) (sa : ByteArray) (nb : Bool) (sb : ByteArray) (hsa : sa.size ≤ maxLen) (hsb : sb.size ≤ maxLen) (fb : Bool) (ft : ByteArray) (E : Int) (hop : opF (fun a b => a * b) na sa nb sb = (.agg #[.bool fb, .string ft], E)) (w : World) :
    Calls Try.prog 28 #[.agg #[.bool na, .string sa], .agg #[.bool nb, .string sb]] w fun e w' => e = .returned (.tuple #[.agg #[.bool fb, .string ft], .int .i64 E]) ∧ Below w.heap.size w w' := by
  obtain ⟨HPOST, hpost⟩ : ∃ X : Ending → World → Prop, X = fun e w' => e = .returned (.tuple #[.agg #[.bool fb, .string ft], .int .i64 E]) ∧ Below w.heap.size w w' := ⟨_, rfl⟩
  rw [← hpost]
  obtain ⟨oka, hoka⟩ : ∃ ok, ok = validB na sa := ⟨_, rfl⟩
  obtain ⟨okb, hokb⟩ : ∃ ok, ok = validB nb sb := ⟨_, rfl⟩
  have HVA := Lib.hid (refValid_wide na sa hsa oka hoka)
  have HVB := Lib.hid (refValid_wide nb sb hsb okb hokb)
  have hno : (oka && okb) = false → (.agg #[.bool fb, .string ft], E) = (emptyW, (2 : Int)) := fun h => by
    rw [← hop]; unfold opF; rw [← hoka, ← hokb, h]; rfl
  have hyes : oka = true → okb = true → outZ ((fun a b => a * b) (zV na sa) (zV nb sb)) = .agg #[.bool fb, .string ft] ∧ errZ ((fun a b => a * b) (zV na sa) (zV nb sb)) = E := fun h1 h2 => by
    unfold opF at hop; rw [← hoka, ← hokb, h1, h2] at hop
    injection hop with e1 e2
    exact ⟨e1, e2⟩
  have HNO := Lib.hid hno
  have HYES := Lib.hid hyes
  have HA := Lib.hid hoka
  have HB := Lib.hid hokb
  clear hop hno hyes hoka hokb
  obtain ⟨W0, hW0⟩ : ∃ W0, W0 = ((w.alloc (.cells #[.bool na, .string sa] 38)).alloc (.cells #[.bool nb, .string sb] 38)).alloc (.cells #[.bool false, .string ⟨#[]⟩] 38) := ⟨_, rfl⟩
  have g0 : W0.heap[w.heap.size]? = some (.cells #[.bool na, .string sa] 38) := by rw [hW0, Below.heap_alloc _ _ _ (by simp; omega), Below.heap_alloc _ _ _ (by simp)]; exact heap_alloc_new w _
  have g1 : W0.heap[w.heap.size + 1]? = some (.cells #[.bool nb, .string sb] 38) := by rw [hW0, Below.heap_alloc _ _ _ (by simp)]; exact alloc_last _ _ (by simp)
  have g2 : W0.heap[w.heap.size + 1 + 1]? = some (.cells #[.bool false, .string ⟨#[]⟩] 38) := by rw [hW0]; exact alloc_last _ _ (by simp)
  have hb0 : Below w.heap.size w W0 := by rw [hW0]; exact ((((Below.refl _ w).alloc (Nat.le_refl _) _).alloc (by simp) _).alloc (by simp; omega) _)
  have HB0 := Lib.hid hb0
  have HG0 := Lib.hid g0
  have HG1 := Lib.hid g1
  have HG2 := Lib.hid g2
  obtain ⟨c00, c01, f0⟩ := wide_cells g0
  have HW0 := Lib.hid hW0
  clear hb0 g0 g1 g2 hW0
  go_enter Try.func28, Try.ntmps28
  go_upto_region 1 with (fail)
  rw [← HW0.out]
  rw [hpost]
  rw [← hpost]
  have HP := Lib.hid hpost
  clear hpost
  go_wp2_with fail
  (with_reducible refine (HVA.out _).mono ?_)
  rintro e w1 ⟨rfl, hb1⟩
  have HK0 := Lib.hid (wide_hold (w := W0) HG0.out hb1)
  have HK1 := Lib.hid (wide_hold (w := W0) HG1.out hb1)
  have HK2 := Lib.hid (wide_hold (w := W0) HG2.out hb1)
  have HBW1 := Lib.hid (HB0.out.trans (hb1.mono HB0.out.size))
  clear c00 c01 f0 hb1
  obtain ⟨c10, c11, f1⟩ := wide_cells HK1.out
  obtain ⟨e20, e21, f2⟩ := wide_cells HK2.out
  cases oka with
  | false =>
    have hz := HNO.out rfl
    injection hz with hz1 hz2
    unfold emptyW wideV at hz1
    injection hz1 with hz1
    injection hz1 with hz1
    injection hz1 with hz1 hz3
    injection hz1 with hz1
    injection hz3 with hz3 hz4
    injection hz3 with hz3
    subst hz1 hz2 hz3
    clear hz4 c10 c11 f1
    go_wp2
    have m2 := wide_set HK2.out false ⟨#[]⟩
    have hb9 := below_set2 (p := w.heap.size + 1 + 1) HBW1.out (by omega) false ⟨#[]⟩
    obtain ⟨d20, d21, -⟩ := wide_cells m2
    clear m2 e20 e21 f2
    generalize (w1.setCell ⟨w.heap.size + 1 + 1, 0, none⟩ (.bool false)).setCell ⟨w.heap.size + 1 + 1, 1, none⟩ (.string ⟨#[]⟩) = W9 at d20 d21 hb9 ⊢
    rw [HP.out]
    exact bodyPost_ret (v := .tuple #[.agg #[.bool false, .string ⟨#[]⟩], .int .i64 2]) (by simp [results, Try.results28, go_sem, d20, d21]) rfl ⟨rfl, hb9⟩
  | true =>
    go_wp2_with fail
    (with_reducible refine (HVB.out _).mono ?_)
    rintro e w2 ⟨rfl, hb2⟩
    have HM0 := Lib.hid (wide_hold (w := w1) HK0.out hb2)
    have HM1 := Lib.hid (wide_hold (w := w1) HK1.out hb2)
    have HM2 := Lib.hid (wide_hold (w := w1) HK2.out hb2)
    have HBW2 := Lib.hid (HBW1.out.trans (hb2.mono HBW1.out.size))
    clear c10 c11 f1 e20 e21 f2 hb2
    obtain ⟨e20, e21, f2⟩ := wide_cells HM2.out
    cases okb with
    | false =>
      have hz := HNO.out rfl
      injection hz with hz1 hz2
      unfold emptyW wideV at hz1
      injection hz1 with hz1
      injection hz1 with hz1
      injection hz1 with hz1 hz3
      injection hz1 with hz1
      injection hz3 with hz3 hz4
      injection hz3 with hz3
      subst hz1 hz2 hz3
      clear hz4
      go_wp2
      have m2 := wide_set HM2.out false ⟨#[]⟩
      have hb9 := below_set2 (p := w.heap.size + 1 + 1) HBW2.out (by omega) false ⟨#[]⟩
      obtain ⟨d20, d21, -⟩ := wide_cells m2
      clear m2 e20 e21 f2
      generalize (w2.setCell ⟨w.heap.size + 1 + 1, 0, none⟩ (.bool false)).setCell ⟨w.heap.size + 1 + 1, 1, none⟩ (.string ⟨#[]⟩) = W9 at d20 d21 hb9 ⊢
      rw [HP.out]
      exact bodyPost_ret (v := .tuple #[.agg #[.bool false, .string ⟨#[]⟩], .int .i64 2]) (by simp [results, Try.results28, go_sem, d20, d21]) rfl ⟨rfl, hb9⟩
    | true =>
      obtain ⟨l1, -, -, -⟩ := valid_spec na sa HA.out.symm
      obtain ⟨l2, -, -, -⟩ := valid_spec nb sb HB.out.symm
      have HINA := Lib.hid (in_any na sa HA.out.symm)
      have HINB := Lib.hid (in_any nb sb HB.out.symm)
      obtain ⟨hy1, hy2⟩ := HYES.out (by simp) (by simp)
      unfold zV at hy1 hy2
      have hwa := hw_len129 l1
      have hwb := hw_len129 l2
      obtain ⟨A, eA⟩ : ∃ A, A = numB sa := ⟨_, rfl⟩
      obtain ⟨C, eC⟩ : ∃ C, C = numB sb := ⟨_, rfl⟩
      rw [← eA] at hy1 hy2 hwa HINA
      rw [← eC] at hy1 hy2 hwb HINB
      clear eA eC l1 l2
      obtain ⟨S, hS⟩ : ∃ S, S = ((na != nb) && decide (A * C ≠ 0)) := ⟨_, rfl⟩
      obtain ⟨M, hM⟩ : ∃ M, M = A * C := ⟨_, rfl⟩
      have HADD : Hid (∀ W va vb, World.numH W va A → World.numH W vb C → Calls Try.prog 60 #[.agg #[.bool na, va], .agg #[.bool nb, vb]] W (SRet W S M)) := fun W va vb h1 h2 => by rw [hS, hM]; exact hmul_any na A va nb C vb W h1 h2 (by omega) (by omega)
      have hz : zOf S M = zOf na A * zOf nb C := by rw [hS, hM, zOf_and]; exact mul_z A na C nb
      have hML : (hw M).length ≤ 129 + 129 := by rw [hM]; exact hw_len_mul hwa hwb
      have HOUT : Hid (∀ v W, World.numH W v M → Calls Try.prog 55 #[.agg #[.bool S, v]] W fun e w' => e = .returned (.tuple #[.agg #[.bool fb, .string ft], .int .i64 E]) ∧ Below W.heap.size W w') := fun v W h => hout_num S M (by omega) fb ft E (by rw [hz]; exact hy1) (by rw [hz]; exact hy2) v W h
      clear hS hM hz hML
      clear e20 e21 f2 hwa hwb hy1 hy2
      obtain ⟨c00, c01, -⟩ := wide_cells HM0.out
      obtain ⟨c10, c11, -⟩ := wide_cells HM1.out
      go_wp2_with fail
      refine wp_region_late (fun w' => w'.cell? ⟨w.heap.size, 0, none⟩ = some (.bool na) ∧ w'.cell? ⟨w.heap.size, 1, none⟩ = some (.string sa) ∧ w'.cell? ⟨w.heap.size + 1, 0, none⟩ = some (.bool nb) ∧ w'.cell? ⟨w.heap.size + 1, 1, none⟩ = some (.string sb)) (fun j => decide (j = 8)) (by kernel_rfl) ⟨c00, c01, c10, c11⟩ (fun hHeld => ?_)
      refine wpAnyD_take 0 (v := ?_) (by kernel_rfl) (by kernel_rfl) rfl (by kernel_rfl) (by kernel_rfl) (fun _ _ _ h => h) (Or.inl ⟨by rfl, ?_⟩) (by assumption) ?_
      rotate_left
      · (intro wq hSq; (try dsimp only at hSq); go_simp; try with_reducible rfl)
      try simp only [Act.put, List.setIfInBounds_toArray, List.set_cons_zero, List.set_cons_succ]
      refine wpAnyD_take 2 (v := ?_) (by kernel_rfl) (by kernel_rfl) rfl (by kernel_rfl) (by kernel_rfl) (fun _ _ _ h => h) (Or.inl ⟨by rfl, ?_⟩) (by assumption) ?_
      rotate_left
      · (intro wq hSq; (try dsimp only at hSq); go_simp; try with_reducible rfl)
      try simp only [Act.put, List.setIfInBounds_toArray, List.set_cons_zero, List.set_cons_succ]
      have HD := Lib.hid ((Below.refl w2.heap.size w2).drew)
      have HBD := Lib.hid (HBW2.out.drew)
      have HQ0 : Hid (w2.drew.heap[w.heap.size]? = some (.cells #[.bool na, .string sa] 38)) := HM0.out
      have HQ1 : Hid (w2.drew.heap[w.heap.size + 1]? = some (.cells #[.bool nb, .string sb] 38)) := HM1.out
      have HQ2 : Hid (w2.drew.heap[w.heap.size + 1 + 1]? = some (.cells #[.bool false, .string ⟨#[]⟩] 38)) := HM2.out
      clear c00 c01 c10 c11
      refine wpAnyD_keep 1 (by kernel_rfl) rfl (fun K hK => ?_)
      go_simp
      go_at_call 57
      (with_reducible refine (HINA.out _).mono ?_)
      rintro e w5 ⟨v5, rfl, hn5, hb5⟩
      obtain ⟨a5, L5, c5, rfl⟩ : ∃ a L c, v5 = .slice a L c := by obtain ⟨x, y, h⟩ := reads_len hn5; exact ⟨x, _, y, h⟩
      have hx0 := wide_hold (w := w2.drew) HQ0.out hb5
      have hx1 := wide_hold (w := w2.drew) HQ1.out hb5
      have hx2 := wide_hold (w := w2.drew) HQ2.out hb5
      have HBX0 := Lib.hid (HBD.out.trans (hb5.mono HBD.out.size))
      obtain ⟨j0, j1, -⟩ := wide_cells hx0
      obtain ⟨j2, j3, -⟩ := wide_cells hx1
      refine hK.out _ _ ⟨j0, j1, j2, j3⟩ (fun hHeld0 => ?_)
      have HX00 := Lib.hid hx0
      have HX01 := Lib.hid hx1
      have HX02 := Lib.hid hx2
      have HN0_n := Lib.hid hn5
      clear hb5 hn5 hx0 hx1 hx2 j0 j1 j2 j3 hK K hHeld
      try simp only [Act.put, List.setIfInBounds_toArray, List.set_cons_zero, List.set_cons_succ]
      refine wpAnyD_keep 3 (by kernel_rfl) rfl (fun K hK => ?_)
      go_simp
      go_at_call 57
      (with_reducible refine (HINB.out _).mono ?_)
      rintro e w6 ⟨v6, rfl, hn6, hb6⟩
      obtain ⟨a6, L6, c6, rfl⟩ : ∃ a L c, v6 = .slice a L c := by obtain ⟨x, y, h⟩ := reads_len hn6; exact ⟨x, _, y, h⟩
      have hx0 := wide_hold (w := w5) HX00.out hb6
      have hx1 := wide_hold (w := w5) HX01.out hb6
      have hx2 := wide_hold (w := w5) HX02.out hb6
      have HBX1 := Lib.hid (HBX0.out.trans (hb6.mono HBX0.out.size))
      obtain ⟨j0, j1, -⟩ := wide_cells hx0
      obtain ⟨j2, j3, -⟩ := wide_cells hx1
      refine hK.out _ _ ⟨j0, j1, j2, j3⟩ (fun hHeld1 => ?_)
      have HX10 := Lib.hid hx0
      have HX11 := Lib.hid hx1
      have HX12 := Lib.hid hx2
      have HN1_0 := Lib.hid (numH_below (HN0_n.out) hb6)
      have HN1_n := Lib.hid hn6
      clear hb6 hn6 hx0 hx1 hx2 j0 j1 j2 j3 hK K hHeld0
      try simp only [Act.put, List.setIfInBounds_toArray, List.set_cons_zero, List.set_cons_succ]
      refine wpAnyD_keep 4 (by kernel_rfl) rfl (fun K hK => ?_)
      go_simp
      go_at_call 60
      (with_reducible refine (HADD.out _ _ _ (HN1_0.out) (HN1_n.out)).mono ?_)
      rintro e w7 ⟨v7, rfl, hn7, hb7⟩
      obtain ⟨a7, L7, c7, rfl⟩ : ∃ a L c, v7 = .slice a L c := by obtain ⟨x, y, h⟩ := reads_len hn7; exact ⟨x, _, y, h⟩
      have hx0 := wide_hold (w := w6) HX10.out hb7
      have hx1 := wide_hold (w := w6) HX11.out hb7
      have hx2 := wide_hold (w := w6) HX12.out hb7
      have HBX2 := Lib.hid (HBX1.out.trans (hb7.mono HBX1.out.size))
      obtain ⟨j0, j1, -⟩ := wide_cells hx0
      obtain ⟨j2, j3, -⟩ := wide_cells hx1
      refine hK.out _ _ ⟨j0, j1, j2, j3⟩ (fun hHeld2 => ?_)
      have HX20 := Lib.hid hx0
      have HX21 := Lib.hid hx1
      have HX22 := Lib.hid hx2
      have HN2_0 := Lib.hid (numH_below (HN1_0.out) hb7)
      have HN2_1 := Lib.hid (numH_below (HN1_n.out) hb7)
      have HN2_n := Lib.hid hn7
      clear hb7 hn7 hx0 hx1 hx2 j0 j1 j2 j3 hK K hHeld1
      try simp only [Act.put, List.setIfInBounds_toArray, List.set_cons_zero, List.set_cons_succ]
      refine wpAnyD_keep 5 (by kernel_rfl) rfl (fun K hK => ?_)
      go_simp
      go_at_call 55
      (with_reducible refine (HOUT.out _ _ (HN2_n.out)).mono ?_)
      rintro e w8 ⟨rfl, hb8⟩
      have hx0 := wide_hold (w := w7) HX20.out hb8
      have hx1 := wide_hold (w := w7) HX21.out hb8
      have hx2 := wide_hold (w := w7) HX22.out hb8
      have HBX3 := Lib.hid (HBX2.out.trans (hb8.mono HBX2.out.size))
      obtain ⟨j0, j1, -⟩ := wide_cells hx0
      obtain ⟨j2, j3, -⟩ := wide_cells hx1
      refine hK.out _ _ ⟨j0, j1, j2, j3⟩ (fun hHeld3 => ?_)
      have HX30 := Lib.hid hx0
      have HX31 := Lib.hid hx1
      have HX32 := Lib.hid hx2
      have HN3_0 := Lib.hid (numH_below (HN2_0.out) hb8)
      have HN3_1 := Lib.hid (numH_below (HN2_1.out) hb8)
      have HN3_2 := Lib.hid (numH_below (HN2_n.out) hb8)
      clear hb8 hx0 hx1 hx2 j0 j1 j2 j3 hK K hHeld2
      try simp only [Act.put, List.setIfInBounds_toArray, List.set_cons_zero, List.set_cons_succ]
      refine wpAnyD_take 6 (v := ?_) (by kernel_rfl) (by kernel_rfl) rfl (by kernel_rfl) (by kernel_rfl) (fun _ _ _ h => h) (Or.inl ⟨by rfl, ?_⟩) (by assumption) ?_
      rotate_left
      · (intro wq hSq; (try dsimp only at hSq); go_simp; try with_reducible rfl)
      try simp only [Act.put, List.setIfInBounds_toArray, List.set_cons_zero, List.set_cons_succ]
      refine wpAnyD_take 7 (v := ?_) (by kernel_rfl) (by kernel_rfl) rfl (by kernel_rfl) (by kernel_rfl) (fun _ _ _ h => h) (Or.inl ⟨by rfl, ?_⟩) (by assumption) ?_
      rotate_left
      · (intro wq hSq; (try dsimp only at hSq); go_simp; try with_reducible rfl)
      try simp only [Act.put, List.setIfInBounds_toArray, List.set_cons_zero, List.set_cons_succ]
      obtain ⟨d0, d1, fz⟩ := wide_cells HX32.out
      refine wpAnyD_step 8 (by kernel_rfl) rfl rfl (fun K hK => ?_)
      go_simp
      refine hK.out _ _ ?_
      clear hK K hHeld3
      try simp only [Act.put, List.setIfInBounds_toArray, List.set_cons_zero, List.set_cons_succ]
      refine wpAnyD_takeW 9 (v := ?_) (by kernel_rfl) rfl (by kernel_rfl) (by kernel_rfl) (fun _ _ _ h => h) (Or.inl ⟨by rfl, ?_⟩) ?_
      rotate_left
      · (intro wq hSq; (try dsimp only at hSq); go_simp; try with_reducible rfl)
      try simp only [Act.put, List.setIfInBounds_toArray, List.set_cons_zero, List.set_cons_succ]
      refine wpAnyD_end (by kernel_rfl) ?_
      have m2 := wide_set HX32.out fb ft
      have hb9 := below_set2 (p := w.heap.size + 1 + 1) HBX3.out (by omega) fb ft
      clear d0 d1 fz
      obtain ⟨d20, d21, -⟩ := wide_cells m2
      clear m2
      generalize (w8.setCell ⟨w.heap.size + 1 + 1, 0, none⟩ (.bool fb)).setCell ⟨w.heap.size + 1 + 1, 1, none⟩ (.string ft) = W9 at d20 d21 hb9 ⊢
      go_wp2
      rw [HP.out]
      exact bodyPost_ret (v := .tuple #[.agg #[.bool fb, .string ft], .int .i64 E]) (by simp [results, Try.results28, go_sem, d20, d21]) rfl ⟨rfl, hb9⟩
end Go.Proofs.Ytnjblppapmflhaa
