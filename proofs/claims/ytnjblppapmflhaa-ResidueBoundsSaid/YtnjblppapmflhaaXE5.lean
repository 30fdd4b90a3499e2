/- The reference: the balanced remainder. -/
import Derived.Test.YtnjblppapmflhaaXE4
namespace Go.Proofs.Ytnjblppapmflhaa
set_option linter.all false
open Go.RowKit Go.Shelf Go.WideNum
theorem hcompare_if (an : Bool) (A : Nat) (bn : Bool) (C : Nat) (k : Int) (hk : cmpZ (zOf an A) (zOf bn C) = k) (hla : (hw A).length ≤ 2000) (hlc : (hw C).length ≤ 2000) (va vb : Value) (w : World) (hA : World.numH w va A) (hC : World.numH w vb C) :
    Calls Try.prog 59 #[.agg #[.bool an, va], .agg #[.bool bn, vb]] w fun e w' => e = .returned (.int .i64 k) ∧ Below w.heap.size w w' := by
  subst hk; exact hcompare_any an A va bn C vb w hA hC hla hlc
theorem hw_two : (hw 2).length = 1 := by decide +kernel
set_option maxRecDepth 100000 in
set_option maxHeartbeats 8000000 in
theorem refBalanced_any (na : Bool) (sa : ByteArray) (nb : Bool) (sb : ByteArray) (hsa : sa.size ≤ maxLen) (hsb : sb.size ≤ maxLen) (fb : Bool) (ft : ByteArray) (E : Int) (hop : balF na sa nb sb = (.agg #[.bool fb, .string ft], E)) (w : World) :
    Calls Try.prog 34 #[.agg #[.bool na, .string sa], .agg #[.bool nb, .string sb]] w fun e w' => e = .returned (.tuple #[.agg #[.bool fb, .string ft], .int .i64 E]) ∧ Below w.heap.size w w' := by
  obtain ⟨HPOST, hpost⟩ : ∃ X : Ending → World → Prop, X = fun e w' => e = .returned (.tuple #[.agg #[.bool fb, .string ft], .int .i64 E]) ∧ Below w.heap.size w w' := ⟨_, rfl⟩
  rw [← hpost]
  obtain ⟨oka, hoka⟩ : ∃ ok, ok = validB na sa := ⟨_, rfl⟩
  obtain ⟨okb, hokb⟩ : ∃ ok, ok = validB nb sb := ⟨_, rfl⟩
  have HVA := Lib.hid (refValid_wide na sa hsa oka hoka)
  have HVB := Lib.hid (refValid_wide nb sb hsb okb hokb)
  have hno : (oka && (okb && (decide (sb.size ≠ 0) && !nb))) = false → (Value.agg #[.bool fb, .string ft], E) = (emptyW, (2 : Int)) := fun h => by
    rw [← hop]; unfold balF posB; rw [← hoka, ← hokb, h]; rfl
  have hyes : oka = true → okb = true → sb.size ≠ 0 → nb = false → outZ (balZ (zV na sa) (zV nb sb)) = .agg #[.bool fb, .string ft] ∧ errZ (balZ (zV na sa) (zV nb sb)) = E := fun h1 h2 h3 h4 => by
    unfold balF posB at hop; rw [← hoka, ← hokb, h1, h2, decide_eq_true h3, h4] at hop
    rw [h4]
    injection hop with e1 e2
    exact ⟨e1, e2⟩
  have HNO := Lib.hid hno
  have HYES := Lib.hid hyes
  have HA := Lib.hid hoka
  have HB := Lib.hid hokb
  clear hop hno hyes hoka hokb
  obtain ⟨W0, hW0⟩ : ∃ W0, W0 = ((w.alloc (.cells #[.bool na, .string sa] 38)).alloc (.cells #[.bool nb, .string sb] 38)).alloc (.cells #[.bool false, .string ⟨#[]⟩] 38) := ⟨_, rfl⟩
  have g0 : W0.heap[w.heap.size]? = some (.cells #[.bool na, .string sa] 38) := by rw [hW0]; repeat (first | (refine alloc_last _ _ ?_; simp only [World.size_alloc]; done) | (rw [Below.heap_alloc]; rotate_left; (simp only [World.size_alloc]; omega)))
  have g1 : W0.heap[w.heap.size + 1]? = some (.cells #[.bool nb, .string sb] 38) := by rw [hW0]; repeat (first | (refine alloc_last _ _ ?_; simp only [World.size_alloc]; done) | (rw [Below.heap_alloc]; rotate_left; (simp only [World.size_alloc]; omega)))
  have g2 : W0.heap[w.heap.size + 1 + 1]? = some (.cells #[.bool false, .string ⟨#[]⟩] 38) := by rw [hW0]; repeat (first | (refine alloc_last _ _ ?_; simp only [World.size_alloc]; done) | (rw [Below.heap_alloc]; rotate_left; (simp only [World.size_alloc]; omega)))
  have hb0 : Below w.heap.size w W0 := by rw [hW0]; exact ((((Below.refl _ w).alloc (Nat.le_refl _) _).alloc (by simp) _).alloc (by simp; omega) _)
  have HB0 := Lib.hid hb0
  have HG0 := Lib.hid g0
  have HG1 := Lib.hid g1
  have HG2 := Lib.hid g2
  obtain ⟨c00, c01, f0⟩ := wide_cells g0
  have HW0 := Lib.hid hW0
  clear hb0 g0 g1 g2 hW0
  go_enter Try.func34, Try.ntmps34
  go_upto_region 1 with (fail)
  rw [← HW0.out]
  rw [hpost]
  rw [← hpost]
  have HP := Lib.hid hpost
  clear hpost
  go_wp2_with fail
  (with_reducible refine (HVA.out _).mono ?_)
  rintro e w1 ⟨rfl, hb1⟩
  have HK0 := Lib.hid (wide_hold (w := W0) HG0.out hb1)
  have HK1 := Lib.hid (wide_hold (w := W0) HG1.out hb1)
  have HK2 := Lib.hid (wide_hold (w := W0) HG2.out hb1)
  have HBW1 := Lib.hid (HB0.out.trans (hb1.mono HB0.out.size))
  clear c00 c01 f0 hb1
  obtain ⟨c10, c11, f1⟩ := wide_cells HK1.out
  cases oka with
  | false =>
    have hz := HNO.out rfl
    injection hz with hz1 hz2
    unfold emptyW wideV at hz1
    injection hz1 with hz1
    injection hz1 with hz1
    injection hz1 with hz1 hz3
    injection hz1 with hz1
    injection hz3 with hz3 hz4
    injection hz3 with hz3
    subst hz1 hz2 hz3
    clear hz4 c10 c11 f1
    obtain ⟨e20, e21, f2⟩ := wide_cells HK2.out
    go_wp2
    have m2 := wide_set HK2.out false ⟨#[]⟩
    have hb9 := below_set2 (p := w.heap.size + 1 + 1) HBW1.out (by omega) false ⟨#[]⟩
    obtain ⟨d20, d21, -⟩ := wide_cells m2
    clear m2 e20 e21 f2
    generalize (w1.setCell ⟨w.heap.size + 1 + 1, 0, none⟩ (.bool false)).setCell ⟨w.heap.size + 1 + 1, 1, none⟩ (.string ⟨#[]⟩) = W9 at d20 d21 hb9 ⊢
    rw [HP.out]
    exact bodyPost_ret (v := .tuple #[.agg #[.bool false, .string ⟨#[]⟩], .int .i64 2]) (by simp [results, Try.results34, go_sem, d20, d21]) rfl ⟨rfl, hb9⟩
  | true =>
    go_wp2_with fail
    (with_reducible refine (HVB.out _).mono ?_)
    rintro e w2 ⟨rfl, hb2⟩
    have HM0 := Lib.hid (wide_hold (w := w1) HK0.out hb2)
    have HM1 := Lib.hid (wide_hold (w := w1) HK1.out hb2)
    have HM2 := Lib.hid (wide_hold (w := w1) HK2.out hb2)
    have HBW2 := Lib.hid (HBW1.out.trans (hb2.mono HBW1.out.size))
    clear c10 c11 f1 hb2
    cases okb with
    | false =>
      have hz := HNO.out rfl
      injection hz with hz1 hz2
      unfold emptyW wideV at hz1
      injection hz1 with hz1
      injection hz1 with hz1
      injection hz1 with hz1 hz3
      injection hz1 with hz1
      injection hz3 with hz3 hz4
      injection hz3 with hz3
      subst hz1 hz2 hz3
      clear hz4
      obtain ⟨e20, e21, f2⟩ := wide_cells HM2.out
      go_wp2
      have m2 := wide_set HM2.out false ⟨#[]⟩
      have hb9 := below_set2 (p := w.heap.size + 1 + 1) HBW2.out (by omega) false ⟨#[]⟩
      obtain ⟨d20, d21, -⟩ := wide_cells m2
      clear m2 e20 e21 f2
      generalize (w2.setCell ⟨w.heap.size + 1 + 1, 0, none⟩ (.bool false)).setCell ⟨w.heap.size + 1 + 1, 1, none⟩ (.string ⟨#[]⟩) = W9 at d20 d21 hb9 ⊢
      rw [HP.out]
      exact bodyPost_ret (v := .tuple #[.agg #[.bool false, .string ⟨#[]⟩], .int .i64 2]) (by simp [results, Try.results34, go_sem, d20, d21]) rfl ⟨rfl, hb9⟩
    | true =>
      obtain ⟨c00, c01, f0⟩ := wide_cells HM0.out
      obtain ⟨c10, c11, f1⟩ := wide_cells HM1.out
      by_cases h0 : sb.size = 0
      · have hz := HNO.out (by rw [decide_eq_false (fun h => h h0)]; rfl)
        obtain rfl := str_empty sb h0
        clear h0
        injection hz with hz1 hz2
        unfold emptyW wideV at hz1
        injection hz1 with hz1
        injection hz1 with hz1
        injection hz1 with hz1 hz3
        injection hz1 with hz1
        injection hz3 with hz3 hz4
        injection hz3 with hz3
        subst hz1 hz2 hz3
        clear hz4
        obtain ⟨e20, e21, f2⟩ := wide_cells HM2.out
        go_wp2
        have m2 := wide_set HM2.out false ⟨#[]⟩
        have hb9 := below_set2 (p := w.heap.size + 1 + 1) HBW2.out (by omega) false ⟨#[]⟩
        obtain ⟨d20, d21, -⟩ := wide_cells m2
        clear m2 e20 e21 f2
        generalize (w2.setCell ⟨w.heap.size + 1 + 1, 0, none⟩ (.bool false)).setCell ⟨w.heap.size + 1 + 1, 1, none⟩ (.string ⟨#[]⟩) = W9 at d20 d21 hb9 ⊢
        rw [HP.out]
        exact bodyPost_ret (v := .tuple #[.agg #[.bool false, .string ⟨#[]⟩], .int .i64 2]) (by simp [results, Try.results34, go_sem, d20, d21]) rfl ⟨rfl, hb9⟩
      · obtain ⟨s1, s2⟩ := str_facts sb h0
        cases nb with
        | true =>
          have hz := HNO.out (by rw [decide_eq_true h0]; rfl)
          clear h0
          injection hz with hz1 hz2
          unfold emptyW wideV at hz1
          injection hz1 with hz1
          injection hz1 with hz1
          injection hz1 with hz1 hz3
          injection hz1 with hz1
          injection hz3 with hz3 hz4
          injection hz3 with hz3
          subst hz1 hz2 hz3
          clear hz4
          obtain ⟨e20, e21, f2⟩ := wide_cells HM2.out
          go_wp2
          have m2 := wide_set HM2.out false ⟨#[]⟩
          have hb9 := below_set2 (p := w.heap.size + 1 + 1) HBW2.out (by omega) false ⟨#[]⟩
          obtain ⟨d20, d21, -⟩ := wide_cells m2
          clear m2 e20 e21 f2
          generalize (w2.setCell ⟨w.heap.size + 1 + 1, 0, none⟩ (.bool false)).setCell ⟨w.heap.size + 1 + 1, 1, none⟩ (.string ⟨#[]⟩) = W9 at d20 d21 hb9 ⊢
          rw [HP.out]
          exact bodyPost_ret (v := .tuple #[.agg #[.bool false, .string ⟨#[]⟩], .int .i64 2]) (by simp [results, Try.results34, go_sem, d20, d21]) rfl ⟨rfl, hb9⟩
        | false =>
          obtain ⟨l1, -, -, -⟩ := valid_spec na sa HA.out.symm
          obtain ⟨l2, hmg, -, -⟩ := valid_spec false sb HB.out.symm
          have HINA := Lib.hid (in_any na sa HA.out.symm)
          have HINB := Lib.hid (in_any false sb HB.out.symm)
          obtain ⟨hy1, hy2⟩ := HYES.out (by simp) (by simp) h0 rfl
          unfold zV at hy1 hy2
          have hwa := hw_len129 l1
          have hwb := hw_len129 l2
          have hC0 : numB sb ≠ 0 := by
            intro h
            rw [h] at hmg
            exact h0 (by rw [← hmg]; rfl)
          obtain ⟨A, eA⟩ : ∃ A, A = numB sa := ⟨_, rfl⟩
          obtain ⟨C, eC⟩ : ∃ C, C = numB sb := ⟨_, rfl⟩
          rw [← eA] at hy1 hy2 hwa HINA l1
          rw [← eC] at hy1 hy2 hwb HINB l2 hC0
          obtain ⟨-, fz2⟩ := floor_z A na C false hC0
          have hR := floorR_lt A na C hC0
          have HDIV : Hid (∀ va vb W, World.numH W va A → World.numH W vb C → Calls Try.prog 58 #[.agg #[.bool na, va], .agg #[.bool false, vb]] W (DivRetH W na A false C)) := fun va vb W h1 h2 => hdiv_any na A va false C vb hC0 W h1 h2 (by omega) (by omega)
          have hRL : (hw (floorR A na C)).length ≤ 1000 := hw_len_mono (Nat.le_of_lt hR) (by omega)
          obtain ⟨M, hM⟩ : ∃ M, M = floorN A na C := ⟨_, rfl⟩
          obtain ⟨R, hRR⟩ : ∃ R, R = floorR A na C := ⟨_, rfl⟩
          unfold DivRetH at HDIV
          rw [← hM] at HDIV
          rw [← hRR] at HDIV hR hRL fz2
          unfold balZ at hy1 hy2
          rw [← fz2, zOf_false] at hy1 hy2
          obtain ⟨SG, hSG⟩ : ∃ SG, SG = ((na != false) && decide (M ≠ 0)) := ⟨_, rfl⟩
          rw [← hSG] at HDIV
          have HOR : Hid (¬ C < 2 * R → ∀ v W, World.numH W v R → Calls Try.prog 55 #[.agg #[.bool false, v]] W fun e w' => e = .returned (.tuple #[.agg #[.bool fb, .string ft], .int .i64 E]) ∧ Below W.heap.size W w') := fun hlt v W h => by
            rw [if_neg (by omega)] at hy1 hy2
            exact hout_num false R (by omega) fb ft E (by rw [zOf_false]; exact hy1) (by rw [zOf_false]; exact hy2) v W h
          obtain ⟨NS, hNS⟩ : ∃ S, S = (!false && decide (C ≠ 0)) := ⟨_, rfl⟩
          obtain ⟨S2, hS2⟩ : ∃ S, S = (sumS R false C NS && decide (sumN R false C NS ≠ 0)) := ⟨_, rfl⟩
          obtain ⟨N2, hN2⟩ : ∃ S, S = sumN R false C NS := ⟨_, rfl⟩
          have hz2 : zOf S2 N2 = (R : Int) - (C : Int) := by
            rw [hS2, hN2, zOf_and, sum_z, hNS, decide_eq_true hC0, zOf_false]
            show (R : Int) + -(C : Int) = _
            omega
          have hNL2 : (hw N2).length ≤ 4001 := hw_len_sum (A := R) (C := C) (by omega) (by omega) (by rw [hN2]; exact sumN_le _ _ _ _)
          have HAD : Hid (∀ va vb W, World.numH W va R → World.numH W vb C → Calls Try.prog 56 #[.agg #[.bool false, va], .agg #[.bool NS, vb]] W (SRet W S2 N2)) := fun va vb W h1 h2 => by rw [hS2, hN2]; exact hadd_any false R va _ C vb W h1 h2 (by omega) (by omega)
          have HOB : Hid (C < 2 * R → ∀ v W, World.numH W v N2 → Calls Try.prog 55 #[.agg #[.bool S2, v]] W fun e w' => e = .returned (.tuple #[.agg #[.bool fb, .string ft], .int .i64 E]) ∧ Below W.heap.size W w') := fun hlt v W h => by
            rw [if_pos (by omega)] at hy1 hy2
            exact hout_num S2 N2 (by omega) fb ft E (by rw [hz2]; exact hy1) (by rw [hz2]; exact hy2) v W h
          have HNG : Hid (∀ v W, World.numH W v C → Calls Try.prog 61 #[.agg #[.bool false, v]] W (SRet W NS C)) := fun v W h => by rw [hNS]; exact negative_any false C _ (hw_vlt C) (by omega) v W (numH_raw h)
          have HWO : Hid (∀ W, Calls Try.prog 64 #[.int .u32 2] W (SRet W false 2)) := fun W => word_any 2 (by omega) W
          obtain ⟨S3, hS3⟩ : ∃ S, S = ((false != false) && decide (2 * R ≠ 0)) := ⟨_, rfl⟩
          have hS3' : S3 = false := by rw [hS3]; rfl
          subst hS3'
          have HMU : Hid (∀ va vb W, World.numH W va 2 → World.numH W vb R → Calls Try.prog 60 #[.agg #[.bool false, va], .agg #[.bool false, vb]] W (SRet W false (2 * R))) := fun va vb W h1 h2 => by rw [hS3]; exact hmul_any false 2 va false R vb W h1 h2 (by rw [hw_two]; omega) (by omega)
          have h2L : (hw (2 * R)).length ≤ 2000 := by
            have := hw_len_mul (A := 2) (C := R) (Nat.le_of_eq hw_two) hRL
            omega
          obtain ⟨k, hk⟩ : ∃ k, cmpZ (zOf false (2 * R)) (zOf false C) = k := ⟨_, rfl⟩
          have HCM : Hid (∀ va vb W, World.numH W va (2 * R) → World.numH W vb C → Calls Try.prog 59 #[.agg #[.bool false, va], .agg #[.bool false, vb]] W fun e w' => e = .returned (.int .i64 k) ∧ Below W.heap.size W w') := fun va vb W h1 h2 => hcompare_if false (2 * R) false C k hk h2L (by omega) va vb W h1 h2
          have HK : Hid ((C < 2 * R ∧ k = 1) ∨ (¬ C < 2 * R ∧ k ≤ 0)) := by
            show _ ∨ _
            unfold cmpZ at hk
            rw [zOf_false, zOf_false] at hk
            by_cases hlt : C < 2 * R
            · rw [if_neg (by omega), if_pos (by omega)] at hk; exact .inl ⟨hlt, hk.symm⟩
            · rw [if_neg (show ¬ (C : Int) < ((2 * R : Nat) : Int) by omega)] at hk
              refine .inr ⟨hlt, ?_⟩
              split at hk <;> omega
          clear hM hRR hSG hwa hwb hy1 hy2 hR hRL fz2 eA eC l1 l2 hmg hC0 h0 hS2 hN2 hz2 hNL2 hS3 h2L hk hNS
          go_wp2_with fail
          have hS0 : ∀ W, Below w2.heap.size w2 W → W.cell? ⟨w.heap.size, 0, none⟩ = some (.bool na) ∧ W.cell? ⟨w.heap.size, 1, none⟩ = some (.string sa) ∧ W.cell? ⟨w.heap.size + 1, 0, none⟩ = some (.bool false) ∧ W.cell? ⟨w.heap.size + 1, 1, none⟩ = some (.string sb) := fun W hb => keep4 (wide_hold (w := w2) HM0.out hb) (wide_hold (w := w2) HM1.out hb)
          clear c00 c01 f0 c10 c11 f1 s1 s2
          refine wp_region_AE 10 7 w2.heap.size (fun w' => w'.cell? ⟨w.heap.size, 0, none⟩ = some (.bool na) ∧ w'.cell? ⟨w.heap.size, 1, none⟩ = some (.string sa) ∧ w'.cell? ⟨w.heap.size + 1, 0, none⟩ = some (.bool false) ∧ w'.cell? ⟨w.heap.size + 1, 1, none⟩ = some (.string sb)) (fun W => Below w2.heap.size w2 W) (fun j => decide (10 ≤ j)) (by kernel_rfl) rfl (by kernel_rfl) (fun _ _ _ _ h => h) (by kernel_rfl) (fact_below (Nat.le_refl _) hS0) ((Below.refl _ _).drew) (fun hF => ?_)
          clear hS0
          refine wpAnyA_alloc2 8 9 (.cells #[.bool false, .slice none 0 0] 86) (.cells #[.bool false, .slice none 0 0] 86) (by kernel_rfl) (by kernel_rfl) (by decide) rfl rfl rfl rfl (by kernel_rfl) (by kernel_rfl) (by kernel_rfl) (by kernel_rfl) (by kernel_rfl) (fun _ => rfl) (fun _ => rfl) (fun _ _ => rfl) (fun _ _ => rfl) (fun _ _ _ _ h => h) (fun _ _ _ _ h => h) hF ?_
          try simp only [Act.put, List.setIfInBounds_toArray, List.set_cons_zero, List.set_cons_succ]
          refine wpAnyA_take 0 (v := ?_) (by kernel_rfl) rfl rfl (by kernel_rfl) (by kernel_rfl) (fun _ _ _ h => h) (Or.inl ⟨by rfl, ?_⟩) (by assumption) ?_
          rotate_left
          · (intro wq hSq; (try dsimp only at hSq); go_simp; try with_reducible rfl)
          try simp only [Act.put, List.setIfInBounds_toArray, List.set_cons_zero, List.set_cons_succ]
          refine wpAnyA_take 2 (v := ?_) (by kernel_rfl) rfl rfl (by kernel_rfl) (by kernel_rfl) (fun _ _ _ h => h) (Or.inl ⟨by rfl, ?_⟩) (by assumption) ?_
          rotate_left
          · (intro wq hSq; (try dsimp only at hSq); go_simp; try with_reducible rfl)
          try simp only [Act.put, List.setIfInBounds_toArray, List.set_cons_zero, List.set_cons_succ]
          refine wpAnyA_step 1 (by kernel_rfl) rfl rfl (fun wq (hFq : Below w2.heap.size w2 wq) K hK => ?_)
          go_simp
          (with_reducible refine (HINA.out _).mono ?_)
          rintro e w5 ⟨v5, rfl, hn5, hb5⟩
          obtain ⟨a5, L5, c5, rfl⟩ : ∃ a L c, v5 = .slice a L c := by obtain ⟨x, y, h⟩ := reads_len hn5; exact ⟨x, _, y, h⟩
          have hq5 : Below w2.heap.size w2 w5 := hFq.trans (hb5.mono hFq.size)
          have hd5 : Below w2.heap.size w2 w5 := hq5
          have N5_5 := Lib.hid hn5
          have D5 := Lib.hid hd5
          have hF5 : Fact w2.heap.size (fun w' => w'.cell? ⟨w.heap.size, 0, none⟩ = some (.bool na) ∧ w'.cell? ⟨w.heap.size, 1, none⟩ = some (.string sa) ∧ w'.cell? ⟨w.heap.size + 1, 0, none⟩ = some (.bool false) ∧ w'.cell? ⟨w.heap.size + 1, 1, none⟩ = some (.string sb)) (fun W => Below w5.heap.size w5 W) := fact_below hd5.size (fun W hb => keep4 (wide_hold (w := w2) HM0.out (D5.out.trans (hb.mono D5.out.size))) (wide_hold (w := w2) HM1.out (D5.out.trans (hb.mono D5.out.size))))
          refine hK.out _ _ hb5 (fun W => Below w5.heap.size w5 W) hF5 (Below.refl _ _) ?_
          clear hK K hb5 hq5 hd5 hFq  hn5
          try simp only [Act.put, List.setIfInBounds_toArray, List.set_cons_zero, List.set_cons_succ]
          refine wpAnyA_step 3 (by kernel_rfl) rfl rfl (fun wq (hFq : Below w5.heap.size w5 wq) K hK => ?_)
          have NQ_5 := Lib.hid (numHold N5_5.out hFq)
          go_simp
          (with_reducible refine (HINB.out _).mono ?_)
          rintro e w6 ⟨v6, rfl, hn6, hb6⟩
          obtain ⟨a6, L6, c6, rfl⟩ : ∃ a L c, v6 = .slice a L c := by obtain ⟨x, y, h⟩ := reads_len hn6; exact ⟨x, _, y, h⟩
          have hq6 : Below w5.heap.size w5 w6 := hFq.trans (hb6.mono hFq.size)
          have hd6 : Below w2.heap.size w2 w6 := D5.out.trans (hq6.mono D5.out.size)
          have N6_5 := Lib.hid (numHold NQ_5.out hb6)
          have N6_6 := Lib.hid hn6
          have D6 := Lib.hid hd6
          have hF6 : Fact w2.heap.size (fun w' => w'.cell? ⟨w.heap.size, 0, none⟩ = some (.bool na) ∧ w'.cell? ⟨w.heap.size, 1, none⟩ = some (.string sa) ∧ w'.cell? ⟨w.heap.size + 1, 0, none⟩ = some (.bool false) ∧ w'.cell? ⟨w.heap.size + 1, 1, none⟩ = some (.string sb)) (fun W => Below w6.heap.size w6 W) := fact_below hd6.size (fun W hb => keep4 (wide_hold (w := w2) HM0.out (D6.out.trans (hb.mono D6.out.size))) (wide_hold (w := w2) HM1.out (D6.out.trans (hb.mono D6.out.size))))
          refine hK.out _ _ hb6 (fun W => Below w6.heap.size w6 W) hF6 (Below.refl _ _) ?_
          clear hK K hb6 hq6 hd6 hFq NQ_5 hn6
          try simp only [Act.put, List.setIfInBounds_toArray, List.set_cons_zero, List.set_cons_succ]
          refine wpAnyA_step 4 (by kernel_rfl) rfl rfl (fun wq (hFq : Below w6.heap.size w6 wq) K hK => ?_)
          have NQ_5 := Lib.hid (numHold N6_5.out hFq)
          have NQ_6 := Lib.hid (numHold N6_6.out hFq)
          go_simp
          (with_reducible refine (HDIV.out _ _ _ NQ_5.out NQ_6.out).mono ?_)
          rintro e w7 ⟨v7, u7, rfl, hn7, hm7, hb7⟩
          obtain ⟨a7, L7, c7, rfl⟩ : ∃ a L c, v7 = .slice a L c := by obtain ⟨x, y, h⟩ := reads_len hn7; exact ⟨x, _, y, h⟩
          obtain ⟨am7, Lm7, cm7, rfl⟩ : ∃ a L c, u7 = .slice a L c := by obtain ⟨x, y, h⟩ := reads_len hm7; exact ⟨x, _, y, h⟩
          have hq7 : Below w6.heap.size w6 w7 := hFq.trans (hb7.mono hFq.size)
          have hd7 : Below w2.heap.size w2 w7 := D6.out.trans (hq7.mono D6.out.size)
          have N7_5 := Lib.hid (numHold NQ_5.out hb7)
          have N7_6 := Lib.hid (numHold NQ_6.out hb7)
          have N7_7 := Lib.hid hn7
          have N7_m7 := Lib.hid hm7
          have D7 := Lib.hid hd7
          have hF7 : Fact w2.heap.size (fun w' => w'.cell? ⟨w.heap.size, 0, none⟩ = some (.bool na) ∧ w'.cell? ⟨w.heap.size, 1, none⟩ = some (.string sa) ∧ w'.cell? ⟨w.heap.size + 1, 0, none⟩ = some (.bool false) ∧ w'.cell? ⟨w.heap.size + 1, 1, none⟩ = some (.string sb)) (fun W => Below w7.heap.size w7 W) := fact_below hd7.size (fun W hb => keep4 (wide_hold (w := w2) HM0.out (D7.out.trans (hb.mono D7.out.size))) (wide_hold (w := w2) HM1.out (D7.out.trans (hb.mono D7.out.size))))
          refine hK.out _ _ hb7 (fun W => Below w7.heap.size w7 W) hF7 (Below.refl _ _) ?_
          clear hK K hb7 hq7 hd7 hFq NQ_5 NQ_6 hn7 hm7
          try simp only [Act.put, List.setIfInBounds_toArray, List.set_cons_zero, List.set_cons_succ]
          refine wpAnyA_take 5 (v := ?_) (by kernel_rfl) rfl rfl (by kernel_rfl) (by kernel_rfl) (fun _ _ _ h => h) (Or.inl ⟨by rfl, ?_⟩) (by assumption) ?_
          rotate_left
          · (intro wq hSq; (try dsimp only at hSq); go_simp; try with_reducible rfl)
          try simp only [Act.put, List.setIfInBounds_toArray, List.set_cons_zero, List.set_cons_succ]
          refine wpAnyA_take 6 (v := ?_) (by kernel_rfl) rfl rfl (by kernel_rfl) (by kernel_rfl) (fun _ _ _ h => h) (Or.inl ⟨by rfl, ?_⟩) (by assumption) ?_
          rotate_left
          · (intro wq hSq; (try dsimp only at hSq); go_simp; try with_reducible rfl)
          try simp only [Act.put, List.setIfInBounds_toArray, List.set_cons_zero, List.set_cons_succ]
          refine wpAnyA_take 7 (v := ?_) (by kernel_rfl) rfl rfl (by kernel_rfl) (by kernel_rfl) (fun _ _ _ h => h) (Or.inl ⟨by rfl, ?_⟩) (by assumption) ?_
          rotate_left
          · (intro wq hSq; (try dsimp only at hSq); go_simp; try with_reducible rfl)
          try simp only [Act.put, List.setIfInBounds_toArray, List.set_cons_zero, List.set_cons_succ]
          refine wpAnyA_end (by kernel_rfl) (fun x0 (hFx : Below w7.heap.size w7 x0) => ?_)
          intro p q hp hq hpq h7 h8
          have hd0 := D7.out.trans (hFx.mono D7.out.size)
          have hm1 := wide_hold (w := w2) HM1.out hd0
          have hm2 := wide_hold (w := w2) HM2.out hd0
          have hw3 := lt_of_heap HM2.out
          have hn := numHold N7_7.out hFx
          have hr := numHold N7_m7.out hFx
          have hD := HBW2.out.trans (hd0.mono HBW2.out.size)
          obtain ⟨d0, d1, z0, z1⟩ := num_cells h7
          refine wpAny_of_D (S := fun _ => True) (late := fun _ => true) _ _ _ _ ?_
          refine wpAnyD_step 10 (by kernel_rfl) rfl rfl (fun K hK => ?_)
          simp only [moreAfter]
          go_simp
          refine hK.out _ _ ?_
          clear hK K d0 d1 z0 z1
          try simp only [Act.put, List.setIfInBounds_toArray, List.set_cons_zero, List.set_cons_succ]
          have e7 := num_set h7 (.bool SG) (.slice a7 L7 c7)
          have e8 := (two_other (W := x0) (p := p) (.bool SG) (.slice a7 L7 c7) q (Ne.symm hpq)).trans h8
          have e1 := (two_other (W := x0) (p := p) (.bool SG) (.slice a7 L7 c7) (w.heap.size + 1) (by omega)).trans hm1
          have e2 := (two_other (W := x0) (p := p) (.bool SG) (.slice a7 L7 c7) (w.heap.size + 1 + 1) (by omega)).trans hm2
          have en := numH_set hn h7 (.bool SG) (.slice a7 L7 c7)
          have er := numH_set hr h7 (.bool SG) (.slice a7 L7 c7)
          have eD : Below w.heap.size w ((x0.setCell ⟨p, 0, none⟩ (.bool SG)).setCell ⟨p, 1, none⟩ (.slice a7 L7 c7)) := (hD.setCell (show w.heap.size ≤ p by omega) _).setCell (show w.heap.size ≤ p by omega) _
          clear h7 h8 hm1 hm2 hn hr hD
          generalize (x0.setCell ⟨p, 0, none⟩ (.bool SG)).setCell ⟨p, 1, none⟩ (.slice a7 L7 c7) = x1 at e7 e8 e1 e2 en er eD ⊢
          obtain ⟨d0, d1, z0, z1⟩ := num_cells e8
          refine wpAnyD_step 11 (by kernel_rfl) rfl rfl (fun K hK => ?_)
          go_simp
          refine hK.out _ _ ?_
          clear hK K d0 d1 z0 z1
          try simp only [Act.put, List.setIfInBounds_toArray, List.set_cons_zero, List.set_cons_succ]
          refine wpAnyD_end (by kernel_rfl) ?_
          have i8 := num_set e8 (.bool false) (.slice am7 Lm7 cm7)
          have i7 := (two_other (W := x1) (p := q) (.bool false) (.slice am7 Lm7 cm7) p hpq).trans e7
          have i1 := (two_other (W := x1) (p := q) (.bool false) (.slice am7 Lm7 cm7) (w.heap.size + 1) (by omega)).trans e1
          have i2 := (two_other (W := x1) (p := q) (.bool false) (.slice am7 Lm7 cm7) (w.heap.size + 1 + 1) (by omega)).trans e2
          have jn := numH_set en e8 (.bool false) (.slice am7 Lm7 cm7)
          have jr := numH_set er e8 (.bool false) (.slice am7 Lm7 cm7)
          have jD : Below w.heap.size w ((x1.setCell ⟨q, 0, none⟩ (.bool false)).setCell ⟨q, 1, none⟩ (.slice am7 Lm7 cm7)) := (eD.setCell (show w.heap.size ≤ q by omega) _).setCell (show w.heap.size ≤ q by omega) _
          clear e7 e8 e1 e2 en er eD
          generalize (x1.setCell ⟨q, 0, none⟩ (.bool false)).setCell ⟨q, 1, none⟩ (.slice am7 Lm7 cm7) = x2 at i8 i7 i1 i2 jn jr jD ⊢
          have HJ7 := Lib.hid i7
          have HJ8 := Lib.hid i8
          have HJ1 := Lib.hid i1
          have HJ2 := Lib.hid i2
          have HJN := Lib.hid jn
          have HJR := Lib.hid jr
          have HJD := Lib.hid jD
          clear i7 i8 i1 i2 jn jr jD hFx hd0
          clear hpq hp HJ7 HJN N7_5 N7_6 N7_7 N7_m7 hF hF5 hF6 hF7
          have Hx2_q := HJ8
          have Hx2_1 := HJ1
          have Hx2_2 := HJ2
          have Nx2_R := HJR
          have Dx2 := HJD
          have hqg : w.heap.size + 1 + 1 < q := by omega
          clear hq hw3 HJ8 HJ1 HJ2 HJR HJD
          go_upto_region 4 with (fail)
          obtain ⟨c00, c01, z0, z1⟩ := num_cells Hx2_q.out
          obtain ⟨c10, c11, f1⟩ := wide_cells Hx2_1.out
          refine wp_region_late (fun w' => w'.cell? ⟨q, 0, none⟩ = some (.bool false) ∧ w'.cell? ⟨q, 1, none⟩ = some (.slice am7 Lm7 cm7) ∧ w'.cell? ⟨w.heap.size + 1, 0, none⟩ = some (.bool false) ∧ w'.cell? ⟨w.heap.size + 1, 1, none⟩ = some (.string sb)) (fun _ => false) (by kernel_rfl) ⟨c00, c01, c10, c11⟩ (fun hHeld => ?_)
          refine wpAnyD_take 1 (v := ?_) (by kernel_rfl) (by kernel_rfl) rfl (by kernel_rfl) (by kernel_rfl) (fun _ _ _ h => h) (Or.inl ⟨by rfl, ?_⟩) (by assumption) ?_
          rotate_left
          · (intro wq hSq; (try dsimp only at hSq); go_simp; try with_reducible rfl)
          try simp only [Act.put, List.setIfInBounds_toArray, List.set_cons_zero, List.set_cons_succ]
          refine wpAnyD_take 3 (v := ?_) (by kernel_rfl) (by kernel_rfl) rfl (by kernel_rfl) (by kernel_rfl) (fun _ _ _ h => h) (Or.inl ⟨by rfl, ?_⟩) (by assumption) ?_
          rotate_left
          · (intro wq hSq; (try dsimp only at hSq); go_simp; try with_reducible rfl)
          try simp only [Act.put, List.setIfInBounds_toArray, List.set_cons_zero, List.set_cons_succ]
          have Hx3_q : Hid (x2.drew.heap[q]? = some (.cells #[.bool false, .slice am7 Lm7 cm7] 86)) := Hx2_q.out
          have Hx3_1 : Hid (x2.drew.heap[w.heap.size + 1]? = some (.cells #[.bool false, .string sb] 38)) := Hx2_1.out
          have Hx3_2 : Hid (x2.drew.heap[w.heap.size + 1 + 1]? = some (.cells #[.bool false, .string ⟨#[]⟩] 38)) := Hx2_2.out
          have Nx3_R : Hid (World.numH x2.drew (.slice am7 Lm7 cm7) R) := Nx2_R.out
          have Dx3 := Lib.hid (Dx2.out.drew)
          clear c00 c01 z0 z1 c10 c11 f1 Hx2_q Hx2_1 Hx2_2 Nx2_R Dx2
          generalize x2.drew = x3 at Hx3_q Hx3_1 Hx3_2 Nx3_R Dx3 hHeld ⊢
          refine wpAnyD_keep 0 (by kernel_rfl) rfl (fun K hK => ?_)
          go_simp
          (with_reducible refine (HWO.out _).mono ?_)
          rintro e x4 ⟨v, rfl, hn, hb⟩
          obtain ⟨ax4, Lx4, cx4, rfl⟩ : ∃ a L c, v = .slice a L c := by obtain ⟨x, y, h⟩ := reads_len hn; exact ⟨x, _, y, h⟩
          have Hx4_q := Lib.hid (hold Hx3_q.out hb)
          have Hx4_1 := Lib.hid (hold Hx3_1.out hb)
          have Hx4_2 := Lib.hid (hold Hx3_2.out hb)
          have Nx4_R := Lib.hid (numHold Nx3_R.out hb)
          have Nx4_x4 := Lib.hid hn
          have Dx4 := Lib.hid (Dx3.out.trans (hb.mono Dx3.out.size))
          obtain ⟨j0, j1, -, -⟩ := num_cells Hx4_q.out
          obtain ⟨j2, j3, -⟩ := wide_cells Hx4_1.out
          refine hK.out _ _ ⟨j0, j1, j2, j3⟩ (fun hHeldx4 => ?_)
          clear hK K hb hHeld hn j0 j1 j2 j3
          try simp only [Act.put, List.setIfInBounds_toArray, List.set_cons_zero, List.set_cons_succ]
          refine wpAnyD_keep 2 (by kernel_rfl) rfl (fun K hK => ?_)
          go_simp
          (with_reducible refine (HMU.out _ _ _ Nx4_x4.out Nx4_R.out).mono ?_)
          rintro e x5 ⟨v, rfl, hn, hb⟩
          obtain ⟨ax5, Lx5, cx5, rfl⟩ : ∃ a L c, v = .slice a L c := by obtain ⟨x, y, h⟩ := reads_len hn; exact ⟨x, _, y, h⟩
          have Hx5_q := Lib.hid (hold Hx4_q.out hb)
          have Hx5_1 := Lib.hid (hold Hx4_1.out hb)
          have Hx5_2 := Lib.hid (hold Hx4_2.out hb)
          have Nx5_R := Lib.hid (numHold Nx4_R.out hb)
          have Nx5_x5 := Lib.hid hn
          have Dx5 := Lib.hid (Dx4.out.trans (hb.mono Dx4.out.size))
          obtain ⟨j0, j1, -, -⟩ := num_cells Hx5_q.out
          obtain ⟨j2, j3, -⟩ := wide_cells Hx5_1.out
          refine hK.out _ _ ⟨j0, j1, j2, j3⟩ (fun hHeldx5 => ?_)
          clear hK K hb hHeldx4 hn j0 j1 j2 j3
          try simp only [Act.put, List.setIfInBounds_toArray, List.set_cons_zero, List.set_cons_succ]
          refine wpAnyD_keep 4 (by kernel_rfl) rfl (fun K hK => ?_)
          go_simp
          (with_reducible refine (HINB.out _).mono ?_)
          rintro e x6 ⟨v, rfl, hn, hb⟩
          obtain ⟨ax6, Lx6, cx6, rfl⟩ : ∃ a L c, v = .slice a L c := by obtain ⟨x, y, h⟩ := reads_len hn; exact ⟨x, _, y, h⟩
          have Hx6_q := Lib.hid (hold Hx5_q.out hb)
          have Hx6_1 := Lib.hid (hold Hx5_1.out hb)
          have Hx6_2 := Lib.hid (hold Hx5_2.out hb)
          have Nx6_R := Lib.hid (numHold Nx5_R.out hb)
          have Nx6_x5 := Lib.hid (numHold Nx5_x5.out hb)
          have Nx6_x6 := Lib.hid hn
          have Dx6 := Lib.hid (Dx5.out.trans (hb.mono Dx5.out.size))
          obtain ⟨j0, j1, -, -⟩ := num_cells Hx6_q.out
          obtain ⟨j2, j3, -⟩ := wide_cells Hx6_1.out
          refine hK.out _ _ ⟨j0, j1, j2, j3⟩ (fun hHeldx6 => ?_)
          clear hK K hb hHeldx5 hn j0 j1 j2 j3
          try simp only [Act.put, List.setIfInBounds_toArray, List.set_cons_zero, List.set_cons_succ]
          refine wpAnyD_keep 5 (by kernel_rfl) rfl (fun K hK => ?_)
          go_simp
          (with_reducible refine (HCM.out _ _ _ Nx6_x5.out Nx6_x6.out).mono ?_)
          rintro e x7 ⟨rfl, hb⟩
          have Hx7_q := Lib.hid (hold Hx6_q.out hb)
          have Hx7_1 := Lib.hid (hold Hx6_1.out hb)
          have Hx7_2 := Lib.hid (hold Hx6_2.out hb)
          have Nx7_R := Lib.hid (numHold Nx6_R.out hb)
          have Dx7 := Lib.hid (Dx6.out.trans (hb.mono Dx6.out.size))
          obtain ⟨j0, j1, -, -⟩ := num_cells Hx7_q.out
          obtain ⟨j2, j3, -⟩ := wide_cells Hx7_1.out
          refine hK.out _ _ ⟨j0, j1, j2, j3⟩ (fun hHeldx7 => ?_)
          clear hK K hb hHeldx6  j0 j1 j2 j3
          try simp only [Act.put, List.setIfInBounds_toArray, List.set_cons_zero, List.set_cons_succ]
          rcases HK.out with ⟨hlt, hk⟩ | ⟨hlt, hk⟩
          · subst hk
            refine wpAnyD_take 6 (v := ?_) (by kernel_rfl) (by kernel_rfl) rfl (by kernel_rfl) (by kernel_rfl) (fun _ _ _ h => h) (Or.inl ⟨by rfl, ?_⟩) (by assumption) ?_
            rotate_left
            · (intro wq hSq; (try dsimp only at hSq); go_simp; try with_reducible rfl)
            try simp only [Act.put, List.setIfInBounds_toArray, List.set_cons_zero, List.set_cons_succ]
            refine wpAnyD_end (by kernel_rfl) ?_
            have HLT := Lib.hid hlt
            clear hHeldx7 hlt
            go_upto_region 5 with (fail)
            obtain ⟨c00, c01, z0, z1⟩ := num_cells Hx7_q.out
            obtain ⟨c10, c11, f1⟩ := wide_cells Hx7_1.out
            refine wp_region_late (fun w' => w'.cell? ⟨q, 0, none⟩ = some (.bool false) ∧ w'.cell? ⟨q, 1, none⟩ = some (.slice am7 Lm7 cm7) ∧ w'.cell? ⟨w.heap.size + 1, 0, none⟩ = some (.bool false) ∧ w'.cell? ⟨w.heap.size + 1, 1, none⟩ = some (.string sb)) (fun j => decide (j = 5)) (by kernel_rfl) ⟨c00, c01, c10, c11⟩ (fun hHeld => ?_)
            refine wpAnyD_take 0 (v := ?_) (by kernel_rfl) (by kernel_rfl) rfl (by kernel_rfl) (by kernel_rfl) (fun _ _ _ h => h) (Or.inl ⟨by rfl, ?_⟩) (by assumption) ?_
            rotate_left
            · (intro wq hSq; (try dsimp only at hSq); go_simp; try with_reducible rfl)
            try simp only [Act.put, List.setIfInBounds_toArray, List.set_cons_zero, List.set_cons_succ]
            refine wpAnyD_take 1 (v := ?_) (by kernel_rfl) (by kernel_rfl) rfl (by kernel_rfl) (by kernel_rfl) (fun _ _ _ h => h) (Or.inl ⟨by rfl, ?_⟩) (by assumption) ?_
            rotate_left
            · (intro wq hSq; (try dsimp only at hSq); go_simp; try with_reducible rfl)
            try simp only [Act.put, List.setIfInBounds_toArray, List.set_cons_zero, List.set_cons_succ]
            have Hx8_q : Hid (x7.drew.heap[q]? = some (.cells #[.bool false, .slice am7 Lm7 cm7] 86)) := Hx7_q.out
            have Hx8_1 : Hid (x7.drew.heap[w.heap.size + 1]? = some (.cells #[.bool false, .string sb] 38)) := Hx7_1.out
            have Hx8_2 : Hid (x7.drew.heap[w.heap.size + 1 + 1]? = some (.cells #[.bool false, .string ⟨#[]⟩] 38)) := Hx7_2.out
            have Nx8_R : Hid (World.numH x7.drew (.slice am7 Lm7 cm7) R) := Nx7_R.out
            have Dx8 := Lib.hid (Dx7.out.drew)
            clear c00 c01 z0 z1 c10 c11 f1
            generalize x7.drew = x8 at Hx8_q Hx8_1 Hx8_2 Nx8_R Dx8 hHeld ⊢
            refine wpAnyD_keep 2 (by kernel_rfl) rfl (fun K hK => ?_)
            go_simp
            (with_reducible refine (HINB.out _).mono ?_)
            rintro e x9 ⟨v, rfl, hn, hb⟩
            obtain ⟨ax9, Lx9, cx9, rfl⟩ : ∃ a L c, v = .slice a L c := by obtain ⟨x, y, h⟩ := reads_len hn; exact ⟨x, _, y, h⟩
            have Hx9_q := Lib.hid (hold Hx8_q.out hb)
            have Hx9_1 := Lib.hid (hold Hx8_1.out hb)
            have Hx9_2 := Lib.hid (hold Hx8_2.out hb)
            have Nx9_R := Lib.hid (numHold Nx8_R.out hb)
            have Nx9_x9 := Lib.hid hn
            have Dx9 := Lib.hid (Dx8.out.trans (hb.mono Dx8.out.size))
            obtain ⟨j0, j1, -, -⟩ := num_cells Hx9_q.out
            obtain ⟨j2, j3, -⟩ := wide_cells Hx9_1.out
            refine hK.out _ _ ⟨j0, j1, j2, j3⟩ (fun hHeldx9 => ?_)
            clear hK K hb hHeld hn j0 j1 j2 j3
            try simp only [Act.put, List.setIfInBounds_toArray, List.set_cons_zero, List.set_cons_succ]
            refine wpAnyD_keep 3 (by kernel_rfl) rfl (fun K hK => ?_)
            go_simp
            (with_reducible refine (HNG.out _ _ Nx9_x9.out).mono ?_)
            rintro e x10 ⟨v, rfl, hn, hb⟩
            obtain ⟨ax10, Lx10, cx10, rfl⟩ : ∃ a L c, v = .slice a L c := by obtain ⟨x, y, h⟩ := reads_len hn; exact ⟨x, _, y, h⟩
            have Hx10_q := Lib.hid (hold Hx9_q.out hb)
            have Hx10_1 := Lib.hid (hold Hx9_1.out hb)
            have Hx10_2 := Lib.hid (hold Hx9_2.out hb)
            have Nx10_R := Lib.hid (numHold Nx9_R.out hb)
            have Nx10_x10 := Lib.hid hn
            have Dx10 := Lib.hid (Dx9.out.trans (hb.mono Dx9.out.size))
            obtain ⟨j0, j1, -, -⟩ := num_cells Hx10_q.out
            obtain ⟨j2, j3, -⟩ := wide_cells Hx10_1.out
            refine hK.out _ _ ⟨j0, j1, j2, j3⟩ (fun hHeldx10 => ?_)
            clear hK K hb hHeldx9 hn j0 j1 j2 j3
            try simp only [Act.put, List.setIfInBounds_toArray, List.set_cons_zero, List.set_cons_succ]
            refine wpAnyD_keep 4 (by kernel_rfl) rfl (fun K hK => ?_)
            go_simp
            (with_reducible refine (HAD.out _ _ _ Nx10_R.out Nx10_x10.out).mono ?_)
            rintro e x11 ⟨v, rfl, hn, hb⟩
            obtain ⟨ax11, Lx11, cx11, rfl⟩ : ∃ a L c, v = .slice a L c := by obtain ⟨x, y, h⟩ := reads_len hn; exact ⟨x, _, y, h⟩
            have Hx11_q := Lib.hid (hold Hx10_q.out hb)
            have Hx11_1 := Lib.hid (hold Hx10_1.out hb)
            have Hx11_2 := Lib.hid (hold Hx10_2.out hb)
            have Nx11_x11 := Lib.hid hn
            have Dx11 := Lib.hid (Dx10.out.trans (hb.mono Dx10.out.size))
            obtain ⟨j0, j1, -, -⟩ := num_cells Hx11_q.out
            obtain ⟨j2, j3, -⟩ := wide_cells Hx11_1.out
            refine hK.out _ _ ⟨j0, j1, j2, j3⟩ (fun hHeldx11 => ?_)
            clear hK K hb hHeldx10 hn j0 j1 j2 j3
            try simp only [Act.put, List.setIfInBounds_toArray, List.set_cons_zero, List.set_cons_succ]
            obtain ⟨d0, d1, z0, z1⟩ := num_cells Hx11_q.out
            refine wpAnyD_step 5 (by kernel_rfl) rfl rfl (fun K hK => ?_)
            go_simp
            refine hK.out _ _ ?_
            clear hK K d0 d1 z0 z1 hHeldx11
            try simp only [Act.put, List.setIfInBounds_toArray, List.set_cons_zero, List.set_cons_succ]
            refine wpAnyD_end (by kernel_rfl) ?_
            have i8 := num_set Hx11_q.out (.bool S2) (.slice ax11 Lx11 cx11)
            have i2 := (two_other (W := x11) (p := q) (.bool S2) (.slice ax11 Lx11 cx11) (w.heap.size + 1 + 1) (by omega)).trans Hx11_2.out
            have jn := numH_set Nx11_x11.out Hx11_q.out (.bool S2) (.slice ax11 Lx11 cx11)
            have jD : Below w.heap.size w ((x11.setCell ⟨q, 0, none⟩ (.bool S2)).setCell ⟨q, 1, none⟩ (.slice ax11 Lx11 cx11)) := (Dx11.out.setCell (show w.heap.size ≤ q by omega) _).setCell (show w.heap.size ≤ q by omega) _
            generalize (x11.setCell ⟨q, 0, none⟩ (.bool S2)).setCell ⟨q, 1, none⟩ (.slice ax11 Lx11 cx11) = x12 at i8 i2 jn jD ⊢
            have Hx12_q := Lib.hid i8
            have Hx12_2 := Lib.hid i2
            have Nx12 := Lib.hid jn
            have Dx12 := Lib.hid jD
            clear i8 i2 jn jD
            go_upto_region 6 with (fail)
            obtain ⟨d0, d1, z0, z1⟩ := num_cells Hx12_q.out
            go_wp2_with fail
            (with_reducible refine (HOB.out HLT.out _ _ Nx12.out).mono ?_)
            rintro e y1 ⟨rfl, hby⟩
            clear d0 d1 z0 z1
            have k2 := hold Hx12_2.out hby
            have kD := Dx12.out.trans (hby.mono Dx12.out.size)
            obtain ⟨e20, e21, f2⟩ := wide_cells k2
            have m2 := wide_set k2 fb ft
            have hb9 := below_set2 (p := w.heap.size + 1 + 1) kD (by omega) fb ft
            clear k2 kD hby
            go_wp2
            clear e20 e21 f2
            obtain ⟨d20, d21, -⟩ := wide_cells m2
            clear m2
            generalize (y1.setCell ⟨w.heap.size + 1 + 1, 0, none⟩ (.bool fb)).setCell ⟨w.heap.size + 1 + 1, 1, none⟩ (.string ft) = W9 at d20 d21 hb9 ⊢
            rw [HP.out]
            exact bodyPost_ret (v := .tuple #[.agg #[.bool fb, .string ft], .int .i64 E]) (by simp [results, Try.results34, go_sem, d20, d21]) rfl ⟨rfl, hb9⟩
          · have hk2 : ¬ 0 < k := by omega
            refine wpAnyD_take 6 (v := ?_) (by kernel_rfl) (by kernel_rfl) rfl (by kernel_rfl) (by kernel_rfl) (fun _ _ _ h => h) (Or.inl ⟨by rfl, ?_⟩) (by assumption) ?_
            rotate_left
            · (intro wq hSq; (try dsimp only at hSq); go_simp; try with_reducible rfl)
            try simp only [Act.put, List.setIfInBounds_toArray, List.set_cons_zero, List.set_cons_succ]
            refine wpAnyD_end (by kernel_rfl) ?_
            clear hHeldx7
            have HLT := Lib.hid hlt
            clear hlt hk2 hk
            go_upto_region 6 with (fail)
            obtain ⟨d0, d1, z0, z1⟩ := num_cells Hx7_q.out
            go_wp2_with fail
            (with_reducible refine (HOR.out HLT.out _ _ Nx7_R.out).mono ?_)
            rintro e y1 ⟨rfl, hby⟩
            clear d0 d1 z0 z1
            have k2 := hold Hx7_2.out hby
            have kD := Dx7.out.trans (hby.mono Dx7.out.size)
            obtain ⟨e20, e21, f2⟩ := wide_cells k2
            have m2 := wide_set k2 fb ft
            have hb9 := below_set2 (p := w.heap.size + 1 + 1) kD (by omega) fb ft
            clear k2 kD hby
            go_wp2
            clear e20 e21 f2
            obtain ⟨d20, d21, -⟩ := wide_cells m2
            clear m2
            generalize (y1.setCell ⟨w.heap.size + 1 + 1, 0, none⟩ (.bool fb)).setCell ⟨w.heap.size + 1 + 1, 1, none⟩ (.string ft) = W9 at d20 d21 hb9 ⊢
            rw [HP.out]
            exact bodyPost_ret (v := .tuple #[.agg #[.bool fb, .string ft], .int .i64 E]) (by simp [results, Try.results34, go_sem, d20, d21]) rfl ⟨rfl, hb9⟩
end Go.Proofs.Ytnjblppapmflhaa
