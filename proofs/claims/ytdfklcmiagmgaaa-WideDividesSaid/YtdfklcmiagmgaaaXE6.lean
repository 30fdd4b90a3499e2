/- The reference: the quotient to the nearest. -/
import Derived.Test.YtdfklcmiagmgaaaXE5
namespace Go.Proofs.Ytdfklcmiagmgaaa
set_option linter.all false
open Go.RowKit Go.Shelf Go.WideNum
theorem hw_len_add1 {A C k : Nat} (ha : (hw A).length ≤ k) (hc : (hw C).length ≤ k) : (hw (A + C)).length ≤ k + 1 := hw_len_le (by
  have h1 := Nat.lt_of_lt_of_le (hw_vlt A) (Nat.pow_le_pow_right (n := 65536) (by omega) ha)
  have h2 := Nat.lt_of_lt_of_le (hw_vlt C) (Nat.pow_le_pow_right (n := 65536) (by omega) hc)
  rw [Nat.pow_succ]
  omega)
/-- The quotient to the nearest, a half going up. -/
def roundZ (a m : Int) : Int := (2 * a + m) / (2 * m)
def roundF (na : Bool) (sa : ByteArray) (nb : Bool) (sb : ByteArray) : Value × Int :=
  if validB na sa && posB nb sb then (outZ (roundZ (zV na sa) (zV nb sb)), errZ (roundZ (zV na sa) (zV nb sb))) else (emptyW, 2)
theorem keepWN {W : World} {p q : Nat} {b c : Bool} {s : ByteArray} {v : Value} {T : TypeId} (h2 : W.heap[p]? = some (.cells #[.bool b, .string s] 23)) (h3 : W.heap[q]? = some (.cells #[.bool c, v] T)) :
    W.cell? ⟨p, 0, none⟩ = some (.bool b) ∧ W.cell? ⟨p, 1, none⟩ = some (.string s) ∧ W.cell? ⟨q, 0, none⟩ = some (.bool c) ∧ W.cell? ⟨q, 1, none⟩ = some v :=
  ⟨(wide_cells h2).1, (wide_cells h2).2.1, (num_cells h3).1, (num_cells h3).2.1⟩
theorem round_z (A : Nat) (na : Bool) (C : Nat) (hC : C ≠ 0) (s : Bool) (hs : zOf s (2 * A) = 2 * zOf na A) :
    zOf (((sumS (2 * A) s C false && decide (sumN (2 * A) s C false ≠ 0)) != false) && decide (floorN (sumN (2 * A) s C false) (sumS (2 * A) s C false && decide (sumN (2 * A) s C false ≠ 0)) (2 * C) ≠ 0)) (floorN (sumN (2 * A) s C false) (sumS (2 * A) s C false && decide (sumN (2 * A) s C false ≠ 0)) (2 * C)) = roundZ (zOf na A) (zOf false C) := by
  rw [zOf_and, (floor_z _ _ _ _ (by omega)).1, zOf_and, sum_z, hs, zOf_false, zOf_false]
  unfold roundZ
  rw [show ((2 * C : Nat) : Int) = 2 * (C : Int) by omega]
theorem mul2_z (A : Nat) (na : Bool) : zOf ((false != na) && decide (2 * A ≠ 0)) (2 * A) = 2 * zOf na A := by
  rw [zOf_and]; unfold zOf; cases na <;> simp <;> omega
set_option maxRecDepth 100000 in
set_option maxHeartbeats 8000000 in
theorem refRound_any (na : Bool) (sa : ByteArray) (nb : Bool) (sb : ByteArray) (hsa : sa.size ≤ maxLen) (hsb : sb.size ≤ maxLen) (fb : Bool) (ft : ByteArray) (E : Int) (hop : roundF na sa nb sb = (.agg #[.bool fb, .string ft], E)) (w : World) :
    Calls Try.prog 35 #[.agg #[.bool na, .string sa], .agg #[.bool nb, .string sb]] w fun e w' => e = .returned (.tuple #[.agg #[.bool fb, .string ft], .int .i64 E]) ∧ Below w.heap.size w w' := by
  obtain ⟨HPOST, hpost⟩ : ∃ X : Ending → World → Prop, X = fun e w' => e = .returned (.tuple #[.agg #[.bool fb, .string ft], .int .i64 E]) ∧ Below w.heap.size w w' := ⟨_, rfl⟩
  rw [← hpost]
  obtain ⟨oka, hoka⟩ : ∃ ok, ok = validB na sa := ⟨_, rfl⟩
  obtain ⟨okb, hokb⟩ : ∃ ok, ok = validB nb sb := ⟨_, rfl⟩
  have HVA := Lib.hid (refValid_wide na sa hsa oka hoka)
  have HVB := Lib.hid (refValid_wide nb sb hsb okb hokb)
  have hno : (oka && (okb && (decide (sb.size ≠ 0) && !nb))) = false → (Value.agg #[.bool fb, .string ft], E) = (emptyW, (2 : Int)) := fun h => by
    rw [← hop]; unfold roundF posB; rw [← hoka, ← hokb, h]; rfl
  have hyes : oka = true → okb = true → sb.size ≠ 0 → nb = false → outZ (roundZ (zV na sa) (zV nb sb)) = .agg #[.bool fb, .string ft] ∧ errZ (roundZ (zV na sa) (zV nb sb)) = E := fun h1 h2 h3 h4 => by
    unfold roundF posB at hop; rw [← hoka, ← hokb, h1, h2, decide_eq_true h3, h4] at hop
    rw [h4]
    injection hop with e1 e2
    exact ⟨e1, e2⟩
  have HNO := Lib.hid hno
  have HYES := Lib.hid hyes
  have HA := Lib.hid hoka
  have HB := Lib.hid hokb
  clear hop hno hyes hoka hokb
  obtain ⟨W0, hW0⟩ : ∃ W0, W0 = ((w.alloc (.cells #[.bool na, .string sa] 23)).alloc (.cells #[.bool nb, .string sb] 23)).alloc (.cells #[.bool false, .string ⟨#[]⟩] 23) := ⟨_, rfl⟩
  have g0 : W0.heap[w.heap.size]? = some (.cells #[.bool na, .string sa] 23) := by rw [hW0]; repeat (first | (refine alloc_last _ _ ?_; simp only [World.size_alloc]; done) | (rw [Below.heap_alloc]; rotate_left; (simp only [World.size_alloc]; omega)))
  have g1 : W0.heap[w.heap.size + 1]? = some (.cells #[.bool nb, .string sb] 23) := by rw [hW0]; repeat (first | (refine alloc_last _ _ ?_; simp only [World.size_alloc]; done) | (rw [Below.heap_alloc]; rotate_left; (simp only [World.size_alloc]; omega)))
  have g2 : W0.heap[w.heap.size + 1 + 1]? = some (.cells #[.bool false, .string ⟨#[]⟩] 23) := by rw [hW0]; repeat (first | (refine alloc_last _ _ ?_; simp only [World.size_alloc]; done) | (rw [Below.heap_alloc]; rotate_left; (simp only [World.size_alloc]; omega)))
  have hb0 : Below w.heap.size w W0 := by rw [hW0]; exact ((((Below.refl _ w).alloc (Nat.le_refl _) _).alloc (by simp) _).alloc (by simp; omega) _)
  have HB0 := Lib.hid hb0
  have HG0 := Lib.hid g0
  have HG1 := Lib.hid g1
  have HG2 := Lib.hid g2
  obtain ⟨c00, c01, f0⟩ := wide_cells g0
  have HW0 := Lib.hid hW0
  clear hb0 g0 g1 g2 hW0
  go_enter Try.func35, Try.ntmps35
  go_upto_region 1 with (fail)
  rw [← HW0.out]
  rw [hpost]
  rw [← hpost]
  have HP := Lib.hid hpost
  clear hpost
  go_wp2_with fail
  (with_reducible refine (HVA.out _).mono ?_)
  rintro e w1 ⟨rfl, hb1⟩
  have HK0 := Lib.hid (wide_hold (w := W0) HG0.out hb1)
  have HK1 := Lib.hid (wide_hold (w := W0) HG1.out hb1)
  have HK2 := Lib.hid (wide_hold (w := W0) HG2.out hb1)
  have HBW1 := Lib.hid (HB0.out.trans (hb1.mono HB0.out.size))
  clear c00 c01 f0 hb1
  obtain ⟨c10, c11, f1⟩ := wide_cells HK1.out
  cases oka with
  | false =>
    have hz := HNO.out rfl
    injection hz with hz1 hz2
    unfold emptyW wideV at hz1
    injection hz1 with hz1
    injection hz1 with hz1
    injection hz1 with hz1 hz3
    injection hz1 with hz1
    injection hz3 with hz3 hz4
    injection hz3 with hz3
    subst hz1 hz2 hz3
    clear hz4 c10 c11 f1
    obtain ⟨e20, e21, f2⟩ := wide_cells HK2.out
    go_wp2
    have m2 := wide_set HK2.out false ⟨#[]⟩
    have hb9 := below_set2 (p := w.heap.size + 1 + 1) HBW1.out (by omega) false ⟨#[]⟩
    obtain ⟨d20, d21, -⟩ := wide_cells m2
    clear m2 e20 e21 f2
    generalize (w1.setCell ⟨w.heap.size + 1 + 1, 0, none⟩ (.bool false)).setCell ⟨w.heap.size + 1 + 1, 1, none⟩ (.string ⟨#[]⟩) = W9 at d20 d21 hb9 ⊢
    rw [HP.out]
    exact bodyPost_ret (v := .tuple #[.agg #[.bool false, .string ⟨#[]⟩], .int .i64 2]) (by simp [results, Try.results35, go_sem, d20, d21]) rfl ⟨rfl, hb9⟩
  | true =>
    go_wp2_with fail
    (with_reducible refine (HVB.out _).mono ?_)
    rintro e w2 ⟨rfl, hb2⟩
    have HM0 := Lib.hid (wide_hold (w := w1) HK0.out hb2)
    have HM1 := Lib.hid (wide_hold (w := w1) HK1.out hb2)
    have HM2 := Lib.hid (wide_hold (w := w1) HK2.out hb2)
    have HBW2 := Lib.hid (HBW1.out.trans (hb2.mono HBW1.out.size))
    clear c10 c11 f1 hb2
    cases okb with
    | false =>
      have hz := HNO.out rfl
      injection hz with hz1 hz2
      unfold emptyW wideV at hz1
      injection hz1 with hz1
      injection hz1 with hz1
      injection hz1 with hz1 hz3
      injection hz1 with hz1
      injection hz3 with hz3 hz4
      injection hz3 with hz3
      subst hz1 hz2 hz3
      clear hz4
      obtain ⟨e20, e21, f2⟩ := wide_cells HM2.out
      go_wp2
      have m2 := wide_set HM2.out false ⟨#[]⟩
      have hb9 := below_set2 (p := w.heap.size + 1 + 1) HBW2.out (by omega) false ⟨#[]⟩
      obtain ⟨d20, d21, -⟩ := wide_cells m2
      clear m2 e20 e21 f2
      generalize (w2.setCell ⟨w.heap.size + 1 + 1, 0, none⟩ (.bool false)).setCell ⟨w.heap.size + 1 + 1, 1, none⟩ (.string ⟨#[]⟩) = W9 at d20 d21 hb9 ⊢
      rw [HP.out]
      exact bodyPost_ret (v := .tuple #[.agg #[.bool false, .string ⟨#[]⟩], .int .i64 2]) (by simp [results, Try.results35, go_sem, d20, d21]) rfl ⟨rfl, hb9⟩
    | true =>
      obtain ⟨c00, c01, f0⟩ := wide_cells HM0.out
      obtain ⟨c10, c11, f1⟩ := wide_cells HM1.out
      by_cases h0 : sb.size = 0
      · have hz := HNO.out (by rw [decide_eq_false (fun h => h h0)]; rfl)
        obtain rfl := str_empty sb h0
        clear h0
        injection hz with hz1 hz2
        unfold emptyW wideV at hz1
        injection hz1 with hz1
        injection hz1 with hz1
        injection hz1 with hz1 hz3
        injection hz1 with hz1
        injection hz3 with hz3 hz4
        injection hz3 with hz3
        subst hz1 hz2 hz3
        clear hz4
        obtain ⟨e20, e21, f2⟩ := wide_cells HM2.out
        go_wp2
        have m2 := wide_set HM2.out false ⟨#[]⟩
        have hb9 := below_set2 (p := w.heap.size + 1 + 1) HBW2.out (by omega) false ⟨#[]⟩
        obtain ⟨d20, d21, -⟩ := wide_cells m2
        clear m2 e20 e21 f2
        generalize (w2.setCell ⟨w.heap.size + 1 + 1, 0, none⟩ (.bool false)).setCell ⟨w.heap.size + 1 + 1, 1, none⟩ (.string ⟨#[]⟩) = W9 at d20 d21 hb9 ⊢
        rw [HP.out]
        exact bodyPost_ret (v := .tuple #[.agg #[.bool false, .string ⟨#[]⟩], .int .i64 2]) (by simp [results, Try.results35, go_sem, d20, d21]) rfl ⟨rfl, hb9⟩
      · obtain ⟨s1, s2⟩ := str_facts sb h0
        cases nb with
        | true =>
          have hz := HNO.out (by rw [decide_eq_true h0]; rfl)
          clear h0
          injection hz with hz1 hz2
          unfold emptyW wideV at hz1
          injection hz1 with hz1
          injection hz1 with hz1
          injection hz1 with hz1 hz3
          injection hz1 with hz1
          injection hz3 with hz3 hz4
          injection hz3 with hz3
          subst hz1 hz2 hz3
          clear hz4
          obtain ⟨e20, e21, f2⟩ := wide_cells HM2.out
          go_wp2
          have m2 := wide_set HM2.out false ⟨#[]⟩
          have hb9 := below_set2 (p := w.heap.size + 1 + 1) HBW2.out (by omega) false ⟨#[]⟩
          obtain ⟨d20, d21, -⟩ := wide_cells m2
          clear m2 e20 e21 f2
          generalize (w2.setCell ⟨w.heap.size + 1 + 1, 0, none⟩ (.bool false)).setCell ⟨w.heap.size + 1 + 1, 1, none⟩ (.string ⟨#[]⟩) = W9 at d20 d21 hb9 ⊢
          rw [HP.out]
          exact bodyPost_ret (v := .tuple #[.agg #[.bool false, .string ⟨#[]⟩], .int .i64 2]) (by simp [results, Try.results35, go_sem, d20, d21]) rfl ⟨rfl, hb9⟩
        | false =>
          obtain ⟨l1, -, -, -⟩ := valid_spec na sa HA.out.symm
          obtain ⟨l2, hmg, -, -⟩ := valid_spec false sb HB.out.symm
          have HINA := Lib.hid (in_any na sa HA.out.symm)
          have HINB := Lib.hid (in_any false sb HB.out.symm)
          obtain ⟨hy1, hy2⟩ := HYES.out (by simp) (by simp) h0 rfl
          unfold zV at hy1 hy2
          have hwa := hw_len129 l1
          have hwb := hw_len129 l2
          have hC0 : numB sb ≠ 0 := by
            intro h
            rw [h] at hmg
            exact h0 (by rw [← hmg]; rfl)
          obtain ⟨A, eA⟩ : ∃ A, A = numB sa := ⟨_, rfl⟩
          obtain ⟨C, eC⟩ : ∃ C, C = numB sb := ⟨_, rfl⟩
          rw [← eA] at hy1 hy2 hwa HINA l1
          rw [← eC] at hy1 hy2 hwb HINB l2 hC0
          have HWO : Hid (∀ W, Calls Try.prog 56 #[.int .u32 2] W (SRet W false 2)) := fun W => word_any 2 (by omega) W
          have h2A : (hw (2 * A)).length ≤ 130 := by
            have := hw_len_mul (A := 2) (C := A) (Nat.le_of_eq hw_two) hwa
            omega
          have h2C : (hw (2 * C)).length ≤ 130 := by
            have := hw_len_mul (A := 2) (C := C) (Nat.le_of_eq hw_two) hwb
            omega
          obtain ⟨S1, hS1⟩ : ∃ S, S = ((false != na) && decide (2 * A ≠ 0)) := ⟨_, rfl⟩
          have hz1 : zOf S1 (2 * A) = 2 * zOf na A := by rw [hS1]; exact mul2_z A na
          have HMA : Hid (∀ va vb W, World.numH W va 2 → World.numH W vb A → Calls Try.prog 55 #[.agg #[.bool false, va], .agg #[.bool na, vb]] W (SRet W S1 (2 * A))) := fun va vb W h1 h2 => by rw [hS1]; exact hmul_any false 2 va na A vb W h1 h2 (by rw [hw_two]; omega) (by omega)
          have HMC : Hid (∀ va vb W, World.numH W va 2 → World.numH W vb C → Calls Try.prog 55 #[.agg #[.bool false, va], .agg #[.bool false, vb]] W (SRet W false (2 * C))) := fun va vb W h1 h2 => hmul_any false 2 va false C vb W h1 h2 (by rw [hw_two]; omega) (by omega)
          have hrz := round_z A na C hC0 S1 hz1
          obtain ⟨N1, hN1⟩ : ∃ S, S = sumN (2 * A) S1 C false := ⟨_, rfl⟩
          obtain ⟨S2, hS2⟩ : ∃ S, S = (sumS (2 * A) S1 C false && decide (sumN (2 * A) S1 C false ≠ 0)) := ⟨_, rfl⟩
          have HAD : Hid (∀ va vb W, World.numH W va (2 * A) → World.numH W vb C → Calls Try.prog 54 #[.agg #[.bool S1, va], .agg #[.bool false, vb]] W (SRet W S2 N1)) := fun va vb W h1 h2 => by rw [hS2, hN1]; exact hadd_any S1 (2 * A) va false C vb W h1 h2 (by omega) (by omega)
          have hNL : (hw N1).length ≤ 131 := hw_len_mono (A := N1) (C := 2 * A + C) (by rw [hN1]; exact sumN_le _ _ _ _) (hw_len_add1 h2A (by omega))
          rw [← hS2, ← hN1] at hrz
          have hMN := floorN_le N1 S2 (2 * C) (by omega)
          have hML : (hw (floorN N1 S2 (2 * C))).length ≤ 131 := hw_len_mono hMN hNL
          have HDIV : Hid (∀ va vb W, World.numH W va N1 → World.numH W vb (2 * C) → Calls Try.prog 69 #[.agg #[.bool S2, va], .agg #[.bool false, vb]] W (DivRetH W S2 N1 false (2 * C))) := fun va vb W h1 h2 => hdiv_any S2 N1 va false (2 * C) vb (by omega) W h1 h2 (by omega) (by omega)
          obtain ⟨M, hM⟩ : ∃ M, M = floorN N1 S2 (2 * C) := ⟨_, rfl⟩
          obtain ⟨RR, hRR⟩ : ∃ R, R = floorR N1 S2 (2 * C) := ⟨_, rfl⟩
          unfold DivRetH at HDIV
          rw [← hM] at HDIV hrz hML
          rw [← hRR] at HDIV
          obtain ⟨SG, hSG⟩ : ∃ SG, SG = ((S2 != false) && decide (M ≠ 0)) := ⟨_, rfl⟩
          rw [← hSG] at HDIV hrz
          rw [← hrz] at hy1 hy2
          have HOQ : Hid (∀ v W, World.numH W v M → Calls Try.prog 57 #[.agg #[.bool SG, v]] W fun e w' => e = .returned (.tuple #[.agg #[.bool fb, .string ft], .int .i64 E]) ∧ Below W.heap.size W w') := fun v W h => hout_num SG M (by omega) fb ft E hy1 hy2 v W h
          obtain ⟨NA2, hNA2⟩ : ∃ x, x = 2 * A := ⟨_, rfl⟩
          obtain ⟨NC2, hNC2⟩ : ∃ x, x = 2 * C := ⟨_, rfl⟩
          rw [← hNA2] at HMA HAD
          rw [← hNC2] at HMC HDIV
          clear hM hRR hSG hwa hwb hy1 hy2 eA eC l1 l2 hmg hC0 h0 hS2 hN1 hS1 hz1 hrz hMN hML hNL h2A h2C hNA2 hNC2
          go_wp2_with fail
          (with_reducible refine (HINB.out _).mono ?_)
          rintro e w3 ⟨v3, rfl, hn3, hb3⟩
          obtain ⟨a3, L3, c3, rfl⟩ : ∃ a L c, v3 = .slice a L c := by obtain ⟨x, y, h⟩ := reads_len hn3; exact ⟨x, _, y, h⟩
          have k0 := wide_hold (w := w2) HM0.out hb3
          have k2 := wide_hold (w := w2) HM2.out hb3
          have kD := HBW2.out.trans (hb3.mono HBW2.out.size)
          clear c00 c01 f0 s1 s2 c10 c11 f1 hb3
          go_upto_region 4 with (fail)
          have hb4 : Below w3.heap.size w3 (w3.alloc (.cells #[.bool false, .slice a3 L3 c3] 63)) := (Below.refl _ _).alloc (Nat.le_refl _) _
          have i6 : (w3.alloc (.cells #[.bool false, .slice a3 L3 c3] 63)).heap[w3.heap.size]? = some (.cells #[.bool false, .slice a3 L3 c3] 63) := heap_alloc_new w3 _
          have i0 := wide_hold (w := w3) k0 hb4
          have i2 := wide_hold (w := w3) k2 hb4
          have inC := numHold hn3 hb4
          have iD := kD.trans (hb4.mono kD.size)
          obtain ⟨P6, hP6⟩ : ∃ P, P = w3.heap.size := ⟨_, rfl⟩
          have hlP6 : w.heap.size + 1 + 1 < P6 := by rw [hP6]; exact lt_of_heap k2
          rw [← hP6] at i6 ⊢
          clear hP6 hb4 k0 k2 kD hn3
          clear HM0 HM1 HM2 HBW2
          generalize w3.alloc (.cells #[.bool false, .slice a3 L3 c3] 63) = w4 at i6 i0 i2 inC iD ⊢
          have HM0 := Lib.hid i0
          have HM2 := Lib.hid i2
          have H6 := Lib.hid i6
          have N4_C := Lib.hid inC
          have HBW2 := Lib.hid iD
          clear i6 i0 i2 inC iD
          have hS0 : ∀ W, Below w4.heap.size w4 W → W.cell? ⟨w.heap.size, 0, none⟩ = some (.bool na) ∧ W.cell? ⟨w.heap.size, 1, none⟩ = some (.string sa) ∧ W.cell? ⟨P6, 0, none⟩ = some (.bool false) ∧ W.cell? ⟨P6, 1, none⟩ = some (.slice a3 L3 c3) := fun W hb => keepWN (wide_hold (w := w4) HM0.out hb) (hold H6.out hb)
          refine wp_region_AE 15 12 w4.heap.size (fun w' => w'.cell? ⟨w.heap.size, 0, none⟩ = some (.bool na) ∧ w'.cell? ⟨w.heap.size, 1, none⟩ = some (.string sa) ∧ w'.cell? ⟨P6, 0, none⟩ = some (.bool false) ∧ w'.cell? ⟨P6, 1, none⟩ = some (.slice a3 L3 c3)) (fun W => Below w4.heap.size w4 W) (fun j => decide (15 ≤ j)) (by kernel_rfl) rfl (by kernel_rfl) (fun _ _ _ _ h => h) (by kernel_rfl) (fact_below (Nat.le_refl _) hS0) ((Below.refl _ _).drew) (fun hF => ?_)
          clear hS0
          refine wpAnyA_alloc2 13 14 (.cells #[.bool false, .slice none 0 0] 63) (.cells #[.bool false, .slice none 0 0] 63) (by kernel_rfl) (by kernel_rfl) (by decide) rfl rfl rfl rfl (by kernel_rfl) (by kernel_rfl) (by kernel_rfl) (by kernel_rfl) (by kernel_rfl) (fun _ => rfl) (fun _ => rfl) (fun _ _ => rfl) (fun _ _ => rfl) (fun _ _ _ _ h => h) (fun _ _ _ _ h => h) hF ?_
          try simp only [Act.put, List.setIfInBounds_toArray, List.set_cons_zero, List.set_cons_succ]
          refine wpAnyA_take 1 (v := ?_) (by kernel_rfl) rfl rfl (by kernel_rfl) (by kernel_rfl) (fun _ _ _ h => h) (Or.inl ⟨by rfl, ?_⟩) (by assumption) ?_
          rotate_left
          · (intro wq hSq; (try dsimp only at hSq); go_simp; try with_reducible rfl)
          try simp only [Act.put, List.setIfInBounds_toArray, List.set_cons_zero, List.set_cons_succ]
          refine wpAnyA_take 4 (v := ?_) (by kernel_rfl) rfl rfl (by kernel_rfl) (by kernel_rfl) (fun _ _ _ h => h) (Or.inl ⟨by rfl, ?_⟩) (by assumption) ?_
          rotate_left
          · (intro wq hSq; (try dsimp only at hSq); go_simp; try with_reducible rfl)
          try simp only [Act.put, List.setIfInBounds_toArray, List.set_cons_zero, List.set_cons_succ]
          refine wpAnyA_take 7 (v := ?_) (by kernel_rfl) rfl rfl (by kernel_rfl) (by kernel_rfl) (fun _ _ _ h => h) (Or.inl ⟨by rfl, ?_⟩) (by assumption) ?_
          rotate_left
          · (intro wq hSq; (try dsimp only at hSq); go_simp; try with_reducible rfl)
          try simp only [Act.put, List.setIfInBounds_toArray, List.set_cons_zero, List.set_cons_succ]
          refine wpAnyA_step 0 (by kernel_rfl) rfl rfl (fun wq (hFq : Below w4.heap.size w4 wq) K hK => ?_)
          have NQ_C := Lib.hid (numHold N4_C.out hFq)
          go_simp
          (with_reducible refine (HWO.out _).mono ?_)
          rintro e w5 ⟨v, rfl, hn, hb⟩
          obtain ⟨at1, Lt1, ct1, rfl⟩ : ∃ a L c, v = .slice a L c := by obtain ⟨x, y, h⟩ := reads_len hn; exact ⟨x, _, y, h⟩
          have hq : Below w4.heap.size w4 w5 := hFq.trans (hb.mono hFq.size)
          have hd : Below w4.heap.size w4 w5 := hq
          have N5_C := Lib.hid (numHold NQ_C.out hb)
          have N5_t1 := Lib.hid hn
          have D5 := Lib.hid hd
          have hF5 : Fact w4.heap.size (fun w' => w'.cell? ⟨w.heap.size, 0, none⟩ = some (.bool na) ∧ w'.cell? ⟨w.heap.size, 1, none⟩ = some (.string sa) ∧ w'.cell? ⟨P6, 0, none⟩ = some (.bool false) ∧ w'.cell? ⟨P6, 1, none⟩ = some (.slice a3 L3 c3)) (fun W => Below w5.heap.size w5 W) := fact_below hd.size (fun W hb => keepWN (wide_hold (w := w4) HM0.out (D5.out.trans (hb.mono D5.out.size))) (hold H6.out (D5.out.trans (hb.mono D5.out.size))))
          refine hK.out _ _ hb (fun W => Below w5.heap.size w5 W) hF5 (Below.refl _ _) ?_
          clear hK K hb hq hd hFq NQ_C hn
          try simp only [Act.put, List.setIfInBounds_toArray, List.set_cons_zero, List.set_cons_succ]
          refine wpAnyA_step 2 (by kernel_rfl) rfl rfl (fun wq (hFq : Below w5.heap.size w5 wq) K hK => ?_)
          have NQ_C := Lib.hid (numHold N5_C.out hFq)
          have NQ_t1 := Lib.hid (numHold N5_t1.out hFq)
          go_simp
          (with_reducible refine (HINA.out _).mono ?_)
          rintro e w6 ⟨v, rfl, hn, hb⟩
          obtain ⟨aA, LA, cA, rfl⟩ : ∃ a L c, v = .slice a L c := by obtain ⟨x, y, h⟩ := reads_len hn; exact ⟨x, _, y, h⟩
          have hq : Below w5.heap.size w5 w6 := hFq.trans (hb.mono hFq.size)
          have hd : Below w4.heap.size w4 w6 := D5.out.trans (hq.mono D5.out.size)
          have N6_C := Lib.hid (numHold NQ_C.out hb)
          have N6_t1 := Lib.hid (numHold NQ_t1.out hb)
          have N6_A := Lib.hid hn
          have D6 := Lib.hid hd
          have hF6 : Fact w4.heap.size (fun w' => w'.cell? ⟨w.heap.size, 0, none⟩ = some (.bool na) ∧ w'.cell? ⟨w.heap.size, 1, none⟩ = some (.string sa) ∧ w'.cell? ⟨P6, 0, none⟩ = some (.bool false) ∧ w'.cell? ⟨P6, 1, none⟩ = some (.slice a3 L3 c3)) (fun W => Below w6.heap.size w6 W) := fact_below hd.size (fun W hb => keepWN (wide_hold (w := w4) HM0.out (D6.out.trans (hb.mono D6.out.size))) (hold H6.out (D6.out.trans (hb.mono D6.out.size))))
          refine hK.out _ _ hb (fun W => Below w6.heap.size w6 W) hF6 (Below.refl _ _) ?_
          clear hK K hb hq hd hFq NQ_C NQ_t1 hn
          try simp only [Act.put, List.setIfInBounds_toArray, List.set_cons_zero, List.set_cons_succ]
          refine wpAnyA_step 3 (by kernel_rfl) rfl rfl (fun wq (hFq : Below w6.heap.size w6 wq) K hK => ?_)
          have NQ_C := Lib.hid (numHold N6_C.out hFq)
          have NQ_t1 := Lib.hid (numHold N6_t1.out hFq)
          have NQ_A := Lib.hid (numHold N6_A.out hFq)
          go_simp
          (with_reducible refine (HMA.out _ _ _ NQ_t1.out NQ_A.out).mono ?_)
          rintro e w7 ⟨v, rfl, hn, hb⟩
          obtain ⟨am1, Lm1, cm1, rfl⟩ : ∃ a L c, v = .slice a L c := by obtain ⟨x, y, h⟩ := reads_len hn; exact ⟨x, _, y, h⟩
          have hq : Below w6.heap.size w6 w7 := hFq.trans (hb.mono hFq.size)
          have hd : Below w4.heap.size w4 w7 := D6.out.trans (hq.mono D6.out.size)
          have N7_C := Lib.hid (numHold NQ_C.out hb)
          have N7_t1 := Lib.hid (numHold NQ_t1.out hb)
          have N7_A := Lib.hid (numHold NQ_A.out hb)
          have N7_m1 := Lib.hid hn
          have D7 := Lib.hid hd
          have hF7 : Fact w4.heap.size (fun w' => w'.cell? ⟨w.heap.size, 0, none⟩ = some (.bool na) ∧ w'.cell? ⟨w.heap.size, 1, none⟩ = some (.string sa) ∧ w'.cell? ⟨P6, 0, none⟩ = some (.bool false) ∧ w'.cell? ⟨P6, 1, none⟩ = some (.slice a3 L3 c3)) (fun W => Below w7.heap.size w7 W) := fact_below hd.size (fun W hb => keepWN (wide_hold (w := w4) HM0.out (D7.out.trans (hb.mono D7.out.size))) (hold H6.out (D7.out.trans (hb.mono D7.out.size))))
          refine hK.out _ _ hb (fun W => Below w7.heap.size w7 W) hF7 (Below.refl _ _) ?_
          clear hK K hb hq hd hFq NQ_C NQ_t1 NQ_A hn
          try simp only [Act.put, List.setIfInBounds_toArray, List.set_cons_zero, List.set_cons_succ]
          refine wpAnyA_step 5 (by kernel_rfl) rfl rfl (fun wq (hFq : Below w7.heap.size w7 wq) K hK => ?_)
          have NQ_C := Lib.hid (numHold N7_C.out hFq)
          have NQ_t1 := Lib.hid (numHold N7_t1.out hFq)
          have NQ_A := Lib.hid (numHold N7_A.out hFq)
          have NQ_m1 := Lib.hid (numHold N7_m1.out hFq)
          go_simp
          (with_reducible refine (HAD.out _ _ _ NQ_m1.out NQ_C.out).mono ?_)
          rintro e w8 ⟨v, rfl, hn, hb⟩
          obtain ⟨as1, Ls1, cs1, rfl⟩ : ∃ a L c, v = .slice a L c := by obtain ⟨x, y, h⟩ := reads_len hn; exact ⟨x, _, y, h⟩
          have hq : Below w7.heap.size w7 w8 := hFq.trans (hb.mono hFq.size)
          have hd : Below w4.heap.size w4 w8 := D7.out.trans (hq.mono D7.out.size)
          have N8_C := Lib.hid (numHold NQ_C.out hb)
          have N8_t1 := Lib.hid (numHold NQ_t1.out hb)
          have N8_A := Lib.hid (numHold NQ_A.out hb)
          have N8_m1 := Lib.hid (numHold NQ_m1.out hb)
          have N8_s1 := Lib.hid hn
          have D8 := Lib.hid hd
          have hF8 : Fact w4.heap.size (fun w' => w'.cell? ⟨w.heap.size, 0, none⟩ = some (.bool na) ∧ w'.cell? ⟨w.heap.size, 1, none⟩ = some (.string sa) ∧ w'.cell? ⟨P6, 0, none⟩ = some (.bool false) ∧ w'.cell? ⟨P6, 1, none⟩ = some (.slice a3 L3 c3)) (fun W => Below w8.heap.size w8 W) := fact_below hd.size (fun W hb => keepWN (wide_hold (w := w4) HM0.out (D8.out.trans (hb.mono D8.out.size))) (hold H6.out (D8.out.trans (hb.mono D8.out.size))))
          refine hK.out _ _ hb (fun W => Below w8.heap.size w8 W) hF8 (Below.refl _ _) ?_
          clear hK K hb hq hd hFq NQ_C NQ_t1 NQ_A NQ_m1 hn
          try simp only [Act.put, List.setIfInBounds_toArray, List.set_cons_zero, List.set_cons_succ]
          refine wpAnyA_step 6 (by kernel_rfl) rfl rfl (fun wq (hFq : Below w8.heap.size w8 wq) K hK => ?_)
          have NQ_C := Lib.hid (numHold N8_C.out hFq)
          have NQ_t1 := Lib.hid (numHold N8_t1.out hFq)
          have NQ_A := Lib.hid (numHold N8_A.out hFq)
          have NQ_m1 := Lib.hid (numHold N8_m1.out hFq)
          have NQ_s1 := Lib.hid (numHold N8_s1.out hFq)
          go_simp
          (with_reducible refine (HWO.out _).mono ?_)
          rintro e w9 ⟨v, rfl, hn, hb⟩
          obtain ⟨at2, Lt2, ct2, rfl⟩ : ∃ a L c, v = .slice a L c := by obtain ⟨x, y, h⟩ := reads_len hn; exact ⟨x, _, y, h⟩
          have hq : Below w8.heap.size w8 w9 := hFq.trans (hb.mono hFq.size)
          have hd : Below w4.heap.size w4 w9 := D8.out.trans (hq.mono D8.out.size)
          have N9_C := Lib.hid (numHold NQ_C.out hb)
          have N9_t1 := Lib.hid (numHold NQ_t1.out hb)
          have N9_A := Lib.hid (numHold NQ_A.out hb)
          have N9_m1 := Lib.hid (numHold NQ_m1.out hb)
          have N9_s1 := Lib.hid (numHold NQ_s1.out hb)
          have N9_t2 := Lib.hid hn
          have D9 := Lib.hid hd
          have hF9 : Fact w4.heap.size (fun w' => w'.cell? ⟨w.heap.size, 0, none⟩ = some (.bool na) ∧ w'.cell? ⟨w.heap.size, 1, none⟩ = some (.string sa) ∧ w'.cell? ⟨P6, 0, none⟩ = some (.bool false) ∧ w'.cell? ⟨P6, 1, none⟩ = some (.slice a3 L3 c3)) (fun W => Below w9.heap.size w9 W) := fact_below hd.size (fun W hb => keepWN (wide_hold (w := w4) HM0.out (D9.out.trans (hb.mono D9.out.size))) (hold H6.out (D9.out.trans (hb.mono D9.out.size))))
          refine hK.out _ _ hb (fun W => Below w9.heap.size w9 W) hF9 (Below.refl _ _) ?_
          clear hK K hb hq hd hFq NQ_C NQ_t1 NQ_A NQ_m1 NQ_s1 hn
          try simp only [Act.put, List.setIfInBounds_toArray, List.set_cons_zero, List.set_cons_succ]
          refine wpAnyA_step 8 (by kernel_rfl) rfl rfl (fun wq (hFq : Below w9.heap.size w9 wq) K hK => ?_)
          have NQ_C := Lib.hid (numHold N9_C.out hFq)
          have NQ_t1 := Lib.hid (numHold N9_t1.out hFq)
          have NQ_A := Lib.hid (numHold N9_A.out hFq)
          have NQ_m1 := Lib.hid (numHold N9_m1.out hFq)
          have NQ_s1 := Lib.hid (numHold N9_s1.out hFq)
          have NQ_t2 := Lib.hid (numHold N9_t2.out hFq)
          go_simp
          (with_reducible refine (HMC.out _ _ _ NQ_t2.out NQ_C.out).mono ?_)
          rintro e w10 ⟨v, rfl, hn, hb⟩
          obtain ⟨am2, Lm2, cm2, rfl⟩ : ∃ a L c, v = .slice a L c := by obtain ⟨x, y, h⟩ := reads_len hn; exact ⟨x, _, y, h⟩
          have hq : Below w9.heap.size w9 w10 := hFq.trans (hb.mono hFq.size)
          have hd : Below w4.heap.size w4 w10 := D9.out.trans (hq.mono D9.out.size)
          have N10_C := Lib.hid (numHold NQ_C.out hb)
          have N10_t1 := Lib.hid (numHold NQ_t1.out hb)
          have N10_A := Lib.hid (numHold NQ_A.out hb)
          have N10_m1 := Lib.hid (numHold NQ_m1.out hb)
          have N10_s1 := Lib.hid (numHold NQ_s1.out hb)
          have N10_t2 := Lib.hid (numHold NQ_t2.out hb)
          have N10_m2 := Lib.hid hn
          have D10 := Lib.hid hd
          have hF10 : Fact w4.heap.size (fun w' => w'.cell? ⟨w.heap.size, 0, none⟩ = some (.bool na) ∧ w'.cell? ⟨w.heap.size, 1, none⟩ = some (.string sa) ∧ w'.cell? ⟨P6, 0, none⟩ = some (.bool false) ∧ w'.cell? ⟨P6, 1, none⟩ = some (.slice a3 L3 c3)) (fun W => Below w10.heap.size w10 W) := fact_below hd.size (fun W hb => keepWN (wide_hold (w := w4) HM0.out (D10.out.trans (hb.mono D10.out.size))) (hold H6.out (D10.out.trans (hb.mono D10.out.size))))
          refine hK.out _ _ hb (fun W => Below w10.heap.size w10 W) hF10 (Below.refl _ _) ?_
          clear hK K hb hq hd hFq NQ_C NQ_t1 NQ_A NQ_m1 NQ_s1 NQ_t2 hn
          try simp only [Act.put, List.setIfInBounds_toArray, List.set_cons_zero, List.set_cons_succ]
          refine wpAnyA_step 9 (by kernel_rfl) rfl rfl (fun wq (hFq : Below w10.heap.size w10 wq) K hK => ?_)
          have NQ_C := Lib.hid (numHold N10_C.out hFq)
          have NQ_t1 := Lib.hid (numHold N10_t1.out hFq)
          have NQ_A := Lib.hid (numHold N10_A.out hFq)
          have NQ_m1 := Lib.hid (numHold N10_m1.out hFq)
          have NQ_s1 := Lib.hid (numHold N10_s1.out hFq)
          have NQ_t2 := Lib.hid (numHold N10_t2.out hFq)
          have NQ_m2 := Lib.hid (numHold N10_m2.out hFq)
          go_simp
          (with_reducible refine (HDIV.out _ _ _ NQ_s1.out NQ_m2.out).mono ?_)
          rintro e w11 ⟨v, u, rfl, hn, hm, hb⟩
          obtain ⟨aq7, Lq7, cq7, rfl⟩ : ∃ a L c, v = .slice a L c := by obtain ⟨x, y, h⟩ := reads_len hn; exact ⟨x, _, y, h⟩
          obtain ⟨ar7, Lr7, cr7, rfl⟩ : ∃ a L c, u = .slice a L c := by obtain ⟨x, y, h⟩ := reads_len hm; exact ⟨x, _, y, h⟩
          have hq : Below w10.heap.size w10 w11 := hFq.trans (hb.mono hFq.size)
          have hd : Below w4.heap.size w4 w11 := D10.out.trans (hq.mono D10.out.size)
          have N11_C := Lib.hid (numHold NQ_C.out hb)
          have N11_t1 := Lib.hid (numHold NQ_t1.out hb)
          have N11_A := Lib.hid (numHold NQ_A.out hb)
          have N11_m1 := Lib.hid (numHold NQ_m1.out hb)
          have N11_s1 := Lib.hid (numHold NQ_s1.out hb)
          have N11_t2 := Lib.hid (numHold NQ_t2.out hb)
          have N11_m2 := Lib.hid (numHold NQ_m2.out hb)
          have N11_q7 := Lib.hid hn
          have N11_r7 := Lib.hid hm
          have D11 := Lib.hid hd
          have hF11 : Fact w4.heap.size (fun w' => w'.cell? ⟨w.heap.size, 0, none⟩ = some (.bool na) ∧ w'.cell? ⟨w.heap.size, 1, none⟩ = some (.string sa) ∧ w'.cell? ⟨P6, 0, none⟩ = some (.bool false) ∧ w'.cell? ⟨P6, 1, none⟩ = some (.slice a3 L3 c3)) (fun W => Below w11.heap.size w11 W) := fact_below hd.size (fun W hb => keepWN (wide_hold (w := w4) HM0.out (D11.out.trans (hb.mono D11.out.size))) (hold H6.out (D11.out.trans (hb.mono D11.out.size))))
          refine hK.out _ _ hb (fun W => Below w11.heap.size w11 W) hF11 (Below.refl _ _) ?_
          clear hK K hb hq hd hFq NQ_C NQ_t1 NQ_A NQ_m1 NQ_s1 NQ_t2 NQ_m2 hn hm
          try simp only [Act.put, List.setIfInBounds_toArray, List.set_cons_zero, List.set_cons_succ]
          refine wpAnyA_take 10 (v := ?_) (by kernel_rfl) rfl rfl (by kernel_rfl) (by kernel_rfl) (fun _ _ _ h => h) (Or.inl ⟨by rfl, ?_⟩) (by assumption) ?_
          rotate_left
          · (intro wq hSq; (try dsimp only at hSq); go_simp; try with_reducible rfl)
          try simp only [Act.put, List.setIfInBounds_toArray, List.set_cons_zero, List.set_cons_succ]
          refine wpAnyA_take 11 (v := ?_) (by kernel_rfl) rfl rfl (by kernel_rfl) (by kernel_rfl) (fun _ _ _ h => h) (Or.inl ⟨by rfl, ?_⟩) (by assumption) ?_
          rotate_left
          · (intro wq hSq; (try dsimp only at hSq); go_simp; try with_reducible rfl)
          try simp only [Act.put, List.setIfInBounds_toArray, List.set_cons_zero, List.set_cons_succ]
          refine wpAnyA_take 12 (v := ?_) (by kernel_rfl) rfl rfl (by kernel_rfl) (by kernel_rfl) (fun _ _ _ h => h) (Or.inl ⟨by rfl, ?_⟩) (by assumption) ?_
          rotate_left
          · (intro wq hSq; (try dsimp only at hSq); go_simp; try with_reducible rfl)
          try simp only [Act.put, List.setIfInBounds_toArray, List.set_cons_zero, List.set_cons_succ]
          refine wpAnyA_end (by kernel_rfl) (fun x0 (hFx : Below w11.heap.size w11 x0) => ?_)
          intro p q hp hq hpq h7 h8
          have hd0 := D11.out.trans (hFx.mono D11.out.size)
          have hm2 := wide_hold (w := w4) HM2.out hd0
          have hw3 := lt_of_heap HM2.out
          have hn := numHold N11_q7.out hFx
          have hr := numHold N11_r7.out hFx
          have hD := HBW2.out.trans (hd0.mono HBW2.out.size)
          obtain ⟨d0, d1, z0, z1⟩ := num_cells h7
          refine wpAny_of_D (S := fun _ => True) (late := fun _ => true) _ _ _ _ ?_
          refine wpAnyD_step 15 (by kernel_rfl) rfl rfl (fun K hK => ?_)
          simp only [moreAfter]
          go_simp
          refine hK.out _ _ ?_
          clear hK K d0 d1 z0 z1
          try simp only [Act.put, List.setIfInBounds_toArray, List.set_cons_zero, List.set_cons_succ]
          have e7 := num_set h7 (.bool SG) (.slice aq7 Lq7 cq7)
          have e8 := (two_other (W := x0) (p := p) (.bool SG) (.slice aq7 Lq7 cq7) q (Ne.symm hpq)).trans h8
          have e2 := (two_other (W := x0) (p := p) (.bool SG) (.slice aq7 Lq7 cq7) (w.heap.size + 1 + 1) (by omega)).trans hm2
          have en := numH_set hn h7 (.bool SG) (.slice aq7 Lq7 cq7)
          have er := numH_set hr h7 (.bool SG) (.slice aq7 Lq7 cq7)
          have eD : Below w.heap.size w ((x0.setCell ⟨p, 0, none⟩ (.bool SG)).setCell ⟨p, 1, none⟩ (.slice aq7 Lq7 cq7)) := (hD.setCell (show w.heap.size ≤ p by omega) _).setCell (show w.heap.size ≤ p by omega) _
          clear h7 h8 hm2 hn hr hD
          generalize (x0.setCell ⟨p, 0, none⟩ (.bool SG)).setCell ⟨p, 1, none⟩ (.slice aq7 Lq7 cq7) = x1 at e7 e8 e2 en er eD ⊢
          obtain ⟨d0, d1, z0, z1⟩ := num_cells e8
          refine wpAnyD_step 16 (by kernel_rfl) rfl rfl (fun K hK => ?_)
          go_simp
          refine hK.out _ _ ?_
          clear hK K d0 d1 z0 z1
          try simp only [Act.put, List.setIfInBounds_toArray, List.set_cons_zero, List.set_cons_succ]
          refine wpAnyD_end (by kernel_rfl) ?_
          have i8 := num_set e8 (.bool false) (.slice ar7 Lr7 cr7)
          have i7 := (two_other (W := x1) (p := q) (.bool false) (.slice ar7 Lr7 cr7) p hpq).trans e7
          have i2 := (two_other (W := x1) (p := q) (.bool false) (.slice ar7 Lr7 cr7) (w.heap.size + 1 + 1) (by omega)).trans e2
          have jn := numH_set en e8 (.bool false) (.slice ar7 Lr7 cr7)
          have jr := numH_set er e8 (.bool false) (.slice ar7 Lr7 cr7)
          have jD : Below w.heap.size w ((x1.setCell ⟨q, 0, none⟩ (.bool false)).setCell ⟨q, 1, none⟩ (.slice ar7 Lr7 cr7)) := (eD.setCell (show w.heap.size ≤ q by omega) _).setCell (show w.heap.size ≤ q by omega) _
          clear e7 e8 e2 en er eD
          generalize (x1.setCell ⟨q, 0, none⟩ (.bool false)).setCell ⟨q, 1, none⟩ (.slice ar7 Lr7 cr7) = x2 at i8 i7 i2 jn jr jD ⊢
          have HJ7 := Lib.hid i7
          have HJ8 := Lib.hid i8
          have HJ2 := Lib.hid i2
          have HJN := Lib.hid jn
          have HJR := Lib.hid jr
          have HJD := Lib.hid jD
          clear i7 i8 i2 jn jr jD hFx hd0
          obtain ⟨d0, d1, z0, z1⟩ := num_cells HJ7.out
          go_wp2_with fail
          (with_reducible refine (HOQ.out _ _ HJN.out).mono ?_)
          rintro e y1 ⟨rfl, hby⟩
          clear d0 d1 z0 z1
          have k2 := hold HJ2.out hby
          have kD := HJD.out.trans (hby.mono HJD.out.size)
          obtain ⟨e20, e21, f2⟩ := wide_cells k2
          have m2 := wide_set k2 fb ft
          have hb9 := below_set2 (p := w.heap.size + 1 + 1) kD (by omega) fb ft
          clear k2 kD hby
          go_wp2
          clear e20 e21 f2
          obtain ⟨d20, d21, -⟩ := wide_cells m2
          clear m2
          generalize (y1.setCell ⟨w.heap.size + 1 + 1, 0, none⟩ (.bool fb)).setCell ⟨w.heap.size + 1 + 1, 1, none⟩ (.string ft) = W9 at d20 d21 hb9 ⊢
          rw [HP.out]
          exact bodyPost_ret (v := .tuple #[.agg #[.bool fb, .string ft], .int .i64 E]) (by simp [results, Try.results35, go_sem, d20, d21]) rfl ⟨rfl, hb9⟩
end Go.Proofs.Ytdfklcmiagmgaaa
