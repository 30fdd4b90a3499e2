/- Walks: the quotient to the nearest. -/
import Derived.Test.YtdfklcmiagmgaaaXE6
namespace Go.Proofs.Ytdfklcmiagmgaaa
set_option linter.all false
open Go.RowKit Go.Shelf Go.WideNum
/-- What the general division does, for all numbers. -/
def DivAll : Prop := ∀ A C : Nat, C ≠ 0 → (wd A).length ≤ 200 → (wd C).length ≤ 200 → DivOK A C
theorem wd_len_add1 {A C k : Nat} (ha : (wd A).length ≤ k) (hc : (wd C).length ≤ k) : (wd (A + C)).length ≤ k + 1 := by
  have h1 := Nat.lt_of_lt_of_le (wd_vlt A) (Nat.pow_le_pow_right (n := 4294967296) (by omega) ha)
  have h2 := Nat.lt_of_lt_of_le (wd_vlt C) (Nat.pow_le_pow_right (n := 4294967296) (by omega) hc)
  have := words_length (B := 4294967296) (by omega) (A + C) (k + 1) (by rw [Nat.pow_succ]; omega)
  unfold wd at *; omega
theorem rnd_z (A : Nat) (na : Bool) (C : Nat) (hC : C ≠ 0) (SB : Bool) (N : Nat) (h : zOf SB N = zOf na (A * 2 ^ 1) + zOf false C) : zOf (SB != false) (floorN N SB (C * 2 ^ 1)) = roundZ (zOf na A) (zOf false C) := by
  rw [(floor_z _ _ _ _ (by omega)).1, h]
  unfold roundZ
  rw [zOf_false, zOf_false, show ((C * 2 ^ 1 : Nat) : Int) = 2 * (C : Int) by omega]
  congr 1
  unfold zOf
  split <;> omega
theorem floorN_le2 (A : Nat) (an : Bool) (C : Nat) (hC : C ≠ 0) : floorN A an C ≤ A := floorN_le A an C hC
set_option maxRecDepth 100000 in
set_option maxHeartbeats 8000000 in
theorem Round_any (hDA : DivAll) (na : Bool) (sa : ByteArray) (nb : Bool) (sb : ByteArray) (hsa : sa.size ≤ maxLen) (hsb : sb.size ≤ maxLen) (fb : Bool) (ft : ByteArray) (E : Int) (hop : roundF na sa nb sb = (.agg #[.bool fb, .string ft], E)) (w : World) :
    Calls Try.prog 34 #[.agg #[.bool na, .string sa], .agg #[.bool nb, .string sb]] w fun e w' => e = .returned (.tuple #[.agg #[.bool fb, .string ft], .int .i64 E]) ∧ Below w.heap.size w w' := by
  obtain ⟨HPOST, hpost⟩ : ∃ X : Ending → World → Prop, X = fun e w' => e = .returned (.tuple #[.agg #[.bool fb, .string ft], .int .i64 E]) ∧ Below w.heap.size w w' := ⟨_, rfl⟩
  rw [← hpost]
  obtain ⟨oka, hoka⟩ : ∃ ok, ok = validB na sa := ⟨_, rfl⟩
  obtain ⟨okp, hokp⟩ : ∃ ok, ok = posB nb sb := ⟨_, rfl⟩
  have HVAL : Hid (∀ W : World, Calls Try.prog 16 #[.agg #[.bool na, .string sa]] W fun e w' => e = .returned (.bool (validB na sa)) ∧ Below W.heap.size W w') := Valid_wide na sa hsa
  have HPOS : Hid (∀ W : World, Calls Try.prog 70 #[.agg #[.bool nb, .string sb]] W fun e w' => e = .returned (.bool (posB nb sb)) ∧ Below W.heap.size W w') := positive_any nb sb hsb
  rw [← hoka] at HVAL
  rw [← hokp] at HPOS
  have hno : (oka && okp) = false → (Value.agg #[.bool fb, .string ft], E) = (emptyW, (2 : Int)) := fun h => by
    rw [← hop]; unfold roundF; rw [← hoka, ← hokp, h]; rfl
  have hyes : oka = true → okp = true → outZ (roundZ (zV na sa) (zV nb sb)) = .agg #[.bool fb, .string ft] ∧ errZ (roundZ (zV na sa) (zV nb sb)) = E := fun h1 h2 => by
    unfold roundF at hop; rw [← hoka, ← hokp, h1, h2] at hop
    injection hop with e1 e2
    exact ⟨e1, e2⟩
  have HNO := Lib.hid hno
  have HYES := Lib.hid hyes
  have HA := Lib.hid hoka
  have HB := Lib.hid hokp
  clear hop hno hyes hoka hokp
  obtain ⟨W0, hW0⟩ : ∃ W0, W0 = ((w.alloc (.cells #[.bool na, .string sa] 23)).alloc (.cells #[.bool nb, .string sb] 23)).alloc (.cells #[.bool false, .string ⟨#[]⟩] 23) := ⟨_, rfl⟩
  have g0 : W0.heap[w.heap.size]? = some (.cells #[.bool na, .string sa] 23) := by rw [hW0]; repeat (first | (refine alloc_last _ _ ?_; simp only [World.size_alloc]; done) | (rw [Below.heap_alloc]; rotate_left; (simp only [World.size_alloc]; omega)))
  have g1 : W0.heap[w.heap.size + 1]? = some (.cells #[.bool nb, .string sb] 23) := by rw [hW0]; repeat (first | (refine alloc_last _ _ ?_; simp only [World.size_alloc]; done) | (rw [Below.heap_alloc]; rotate_left; (simp only [World.size_alloc]; omega)))
  have g2 : W0.heap[w.heap.size + 1 + 1]? = some (.cells #[.bool false, .string ⟨#[]⟩] 23) := by rw [hW0]; repeat (first | (refine alloc_last _ _ ?_; simp only [World.size_alloc]; done) | (rw [Below.heap_alloc]; rotate_left; (simp only [World.size_alloc]; omega)))
  have hb0 : Below w.heap.size w W0 := by rw [hW0]; exact ((((Below.refl _ w).alloc (Nat.le_refl _) _).alloc (by simp) _).alloc (by simp; omega) _)
  have HB0 := Lib.hid hb0
  have HG0 := Lib.hid g0
  have HG1 := Lib.hid g1
  have HG2 := Lib.hid g2
  obtain ⟨c00, c01, f0⟩ := wide_cells g0
  have HW0 := Lib.hid hW0
  clear hb0 g0 g1 g2 hW0
  go_enter Try.func34, Try.ntmps34
  go_upto_region 1 with (fail)
  rw [← HW0.out]
  rw [hpost]
  rw [← hpost]
  have HP := Lib.hid hpost
  clear hpost
  go_wp2_with fail
  (with_reducible refine (HVAL.out _).mono ?_)
  rintro e w1 ⟨rfl, hb1⟩
  have HK0 := Lib.hid (wide_hold (w := W0) HG0.out hb1)
  have HK1 := Lib.hid (wide_hold (w := W0) HG1.out hb1)
  have HK2 := Lib.hid (wide_hold (w := W0) HG2.out hb1)
  have HBW1 := Lib.hid (HB0.out.trans (hb1.mono HB0.out.size))
  clear c00 c01 f0 hb1
  obtain ⟨c10, c11, f1⟩ := wide_cells HK1.out
  cases oka with
  | false =>
    have hz := HNO.out rfl
    injection hz with hz1 hz2
    unfold emptyW wideV at hz1
    injection hz1 with hz1
    injection hz1 with hz1
    injection hz1 with hz1 hz3
    injection hz1 with hz1
    injection hz3 with hz3 hz4
    injection hz3 with hz3
    subst hz1 hz2 hz3
    clear hz4 c10 c11 f1
    obtain ⟨e20, e21, f2⟩ := wide_cells HK2.out
    go_wp2
    have m2 := wide_set HK2.out false ⟨#[]⟩
    have hb9 := below_set2 (p := w.heap.size + 1 + 1) HBW1.out (by omega) false ⟨#[]⟩
    obtain ⟨d20, d21, -⟩ := wide_cells m2
    clear m2 e20 e21 f2
    generalize (w1.setCell ⟨w.heap.size + 1 + 1, 0, none⟩ (.bool false)).setCell ⟨w.heap.size + 1 + 1, 1, none⟩ (.string ⟨#[]⟩) = W9 at d20 d21 hb9 ⊢
    rw [HP.out]
    exact bodyPost_ret (v := .tuple #[.agg #[.bool false, .string ⟨#[]⟩], .int .i64 2]) (by simp [results, Try.results34, go_sem, d20, d21]) rfl ⟨rfl, hb9⟩
  | true =>
    go_wp2_with fail
    (with_reducible refine (HPOS.out _).mono ?_)
    rintro e w2 ⟨rfl, hb2⟩
    have HM0 := Lib.hid (wide_hold (w := w1) HK0.out hb2)
    have HM1 := Lib.hid (wide_hold (w := w1) HK1.out hb2)
    have HM2 := Lib.hid (wide_hold (w := w1) HK2.out hb2)
    have HBW2 := Lib.hid (HBW1.out.trans (hb2.mono HBW1.out.size))
    clear c10 c11 f1 hb2
    cases okp with
    | false =>
      have hz := HNO.out rfl
      injection hz with hz1 hz2
      unfold emptyW wideV at hz1
      injection hz1 with hz1
      injection hz1 with hz1
      injection hz1 with hz1 hz3
      injection hz1 with hz1
      injection hz3 with hz3 hz4
      injection hz3 with hz3
      subst hz1 hz2 hz3
      clear hz4
      obtain ⟨e20, e21, f2⟩ := wide_cells HM2.out
      go_wp2
      have m2 := wide_set HM2.out false ⟨#[]⟩
      have hb9 := below_set2 (p := w.heap.size + 1 + 1) HBW2.out (by omega) false ⟨#[]⟩
      obtain ⟨d20, d21, -⟩ := wide_cells m2
      clear m2 e20 e21 f2
      generalize (w2.setCell ⟨w.heap.size + 1 + 1, 0, none⟩ (.bool false)).setCell ⟨w.heap.size + 1 + 1, 1, none⟩ (.string ⟨#[]⟩) = W9 at d20 d21 hb9 ⊢
      rw [HP.out]
      exact bodyPost_ret (v := .tuple #[.agg #[.bool false, .string ⟨#[]⟩], .int .i64 2]) (by simp [results, Try.results34, go_sem, d20, d21]) rfl ⟨rfl, hb9⟩
    | true =>
      have hp := HB.out
      unfold posB at hp
      have hv1 : validB nb sb = true := by cases h : validB nb sb <;> rw [h] at hp <;> first | rfl | cases hp
      rw [hv1, Bool.true_and] at hp
      have hp2 : sb.size ≠ 0 ∧ nb = false := by
        have h := hp.symm
        rw [Bool.and_eq_true, decide_eq_true_eq] at h
        exact ⟨h.1, by cases nb with
          | false => rfl
          | true => cases h.2⟩
      obtain ⟨h0, hnb⟩ := hp2
      subst hnb
      obtain ⟨hy1, hy2⟩ := HYES.out (by simp) (by simp)
      unfold zV at hy1 hy2
      obtain ⟨l1, -, -, s256a⟩ := valid_spec na sa HA.out.symm
      obtain ⟨l2, hmg, -, s256b⟩ := valid_spec false sb hv1
      have HOA : Hid (∀ W : World, Calls Try.prog 58 #[.agg #[.bool na, .string sa]] W (NumRet W (numB sa))) := of_wide na sa (by omega)
      have HOB : Hid (∀ W : World, Calls Try.prog 58 #[.agg #[.bool false, .string sb]] W (NumRet W (numB sb))) := of_wide false sb (by omega)
      have hC0 : numB sb ≠ 0 := by
        intro h
        rw [h] at hmg
        exact h0 (by rw [← hmg]; rfl)
      have hwa := wd_len65 l1
      have hwb := wd_len65 l2
      obtain ⟨A, eA⟩ : ∃ A, A = numB sa := ⟨_, rfl⟩
      obtain ⟨C, eC⟩ : ∃ C, C = numB sb := ⟨_, rfl⟩
      rw [← eA] at hy1 hy2 hwa HOA
      rw [← eC] at hy1 hy2 hwb HOB hC0
      have h2A := wd_len_double hwa
      have h2C := wd_len_double hwb
      have HLA : Hid (∀ v W, World.numR W v A → Calls Try.prog 71 #[v, .int .i64 1] W (NumRet W (A * 2 ^ 1))) := fun v W h => left_num A 1 (by omega) v W h (by omega) 1 rfl
      have HLC : Hid (∀ v W, World.numR W v C → Calls Try.prog 71 #[v, .int .i64 1] W (NumRet W (C * 2 ^ 1))) := fun v W h => left_num C 1 (by omega) v W h (by omega) 1 rfl
      have HSU : Hid (∀ va vb W, World.numR W va (A * 2 ^ 1) → World.numR W vb C → Calls Try.prog 66 #[va, .bool na, vb, .bool false] W (NumBool W (sumN (A * 2 ^ 1) na C false) (sumS (A * 2 ^ 1) na C false))) := fun va vb W h1 h2 => sum_any (A * 2 ^ 1) C na false va vb W h1 h2 (by omega) (by omega)
      have hsz := sum_z (A * 2 ^ 1) na C false
      have hNL : (wd (sumN (A * 2 ^ 1) na C false)).length ≤ 66 := wd_len_le (sumN_le _ _ _ _) (wd_len_add1 h2A (by omega))
      obtain ⟨N1, hN1⟩ : ∃ S, S = sumN (A * 2 ^ 1) na C false := ⟨_, rfl⟩
      obtain ⟨S2, hS2⟩ : ∃ S, S = sumS (A * 2 ^ 1) na C false := ⟨_, rfl⟩
      rw [← hN1, ← hS2] at HSU hsz
      rw [← hN1] at hNL
      obtain ⟨SB, hSB⟩ : ∃ S, S = (S2 && decide (N1 ≠ 0)) := ⟨_, rfl⟩
      have hrz := rnd_z A na C hC0 SB N1 (by rw [hSB, zOf_and]; exact hsz)
      have hD2 := hDA N1 (C * 2 ^ 1) (by omega) (by omega) (by omega)
      have HFL : Hid (∀ va vb W, World.numR W va N1 → World.numR W vb (C * 2 ^ 1) → Calls Try.prog 68 #[va, .bool SB, vb, .bool false] W (FloorRet W N1 SB (C * 2 ^ 1) false)) := fun va vb W h1 h2 => floor_any N1 (C * 2 ^ 1) SB false (by omega) hD2 (by omega) (by omega) va vb W h1 h2
      have hML := wd_len_le (floorN_le N1 SB (C * 2 ^ 1) (by omega)) hNL
      obtain ⟨M, hM⟩ : ∃ M, M = floorN N1 SB (C * 2 ^ 1) := ⟨_, rfl⟩
      obtain ⟨RR, hRR⟩ : ∃ R, R = floorR N1 SB (C * 2 ^ 1) := ⟨_, rfl⟩
      obtain ⟨SG, hSG⟩ : ∃ S, S = (SB != false) := ⟨_, rfl⟩
      unfold FloorRet at HFL
      rw [← hM, ← hRR, ← hSG] at HFL
      rw [← hM, ← hSG] at hrz
      rw [← hM] at hML
      rw [← hrz] at hy1 hy2
      have HFO : Hid (∀ v W, World.numR W v M → Calls Try.prog 53 #[v, .bool SG] W fun e w' => e = .returned (.tuple #[.agg #[.bool fb, .string ft], .int .i64 E]) ∧ Below W.heap.size W w') := fun v W h => by
        have := form_num M SG v W h (by omega)
        unfold FormRet at this
        rw [outB_z, outE_z SG, hy1, hy2] at this
        exact this
      have hpos := words_len0 (B := 4294967296) (by omega) N1
      obtain ⟨L1, hL1⟩ : ∃ L, L = (wd N1).length := ⟨_, rfl⟩
      have HCASE : Hid ((S2 = false ∧ SB = false) ∨ (S2 = true ∧ L1 = 0 ∧ SB = false) ∨ (S2 = true ∧ 0 < L1 ∧ SB = true)) := by
        show _ ∨ _ ∨ _
        rw [hSB, hL1]
        unfold wd
        cases S2 with
        | false => exact .inl ⟨rfl, rfl⟩
        | true =>
          by_cases hn : N1 = 0
          · exact .inr (.inl ⟨rfl, by omega, by rw [hn]; rfl⟩)
          · exact .inr (.inr ⟨rfl, by omega, by rw [decide_eq_true hn]; rfl⟩)
      have HL1 := Lib.hid hL1
      obtain ⟨NA2, hNA2⟩ : ∃ x, x = A * 2 ^ 1 := ⟨_, rfl⟩
      obtain ⟨NC2, hNC2⟩ : ∃ x, x = C * 2 ^ 1 := ⟨_, rfl⟩
      rw [← hNA2] at HLA HSU
      rw [← hNC2] at HLC HFL
      clear hM hRR hSG hwa hwb hy1 hy2 eA eC l1 l2 hmg hC0 h0 hS2 hN1 hrz hML hNL h2A h2C hNA2 hNC2 hsz hSB hD2 hpos hL1 hv1 hp
      obtain ⟨c00, c01, f0⟩ := wide_cells HM0.out
      obtain ⟨c10, c11, f1⟩ := wide_cells HM1.out
      go_wp2_with fail
      (with_reducible refine (HOB.out _).mono ?_)
      rintro e w3 ⟨v3, rfl, ho3, hb3⟩
      obtain ⟨a3, L3, c3, rfl⟩ : ∃ a L c, v3 = .slice a L c := by obtain ⟨x, y, h⟩ := reads_len ho3.reads; exact ⟨x, _, y, h⟩
      have HK0 := Lib.hid (wide_hold (w := w2) HM0.out hb3)
      have HK2 := Lib.hid (wide_hold (w := w2) HM2.out hb3)
      have HKD := Lib.hid (HBW2.out.trans (hb3.mono HBW2.out.size))
      have HNC : Hid (World.numR w3 (.slice a3 L3 c3) C) := ho3.reads
      clear c00 c01 f0 c10 c11 f1 ho3 hb3
      go_upto_region 4 with (fail)
      obtain ⟨c00, c01, f0⟩ := wide_cells HK0.out
      refine wp_region_late (fun w' => w'.cell? ⟨w.heap.size, 0, none⟩ = some (.bool na) ∧ w'.cell? ⟨w.heap.size, 1, none⟩ = some (.string sa)) (fun _ => false) (by kernel_rfl) ⟨c00, c01⟩ (fun hHeld => ?_)
      refine wpAnyD_take 0 (v := ?_) (by kernel_rfl) (by kernel_rfl) rfl (by kernel_rfl) (by kernel_rfl) (fun _ _ _ h => h) (Or.inl ⟨by rfl, ?_⟩) (by assumption) ?_
      rotate_left
      · (intro wq hSq; (try dsimp only at hSq); go_simp; try with_reducible rfl)
      try simp only [Act.put, List.setIfInBounds_toArray, List.set_cons_zero, List.set_cons_succ]
      refine wpAnyD_take 3 (v := ?_) (by kernel_rfl) (by kernel_rfl) rfl (by kernel_rfl) (by kernel_rfl) (fun _ _ _ h => h) (Or.inl ⟨by rfl, ?_⟩) (by assumption) ?_
      rotate_left
      · (intro wq hSq; (try dsimp only at hSq); go_simp; try with_reducible rfl)
      try simp only [Act.put, List.setIfInBounds_toArray, List.set_cons_zero, List.set_cons_succ]
      refine wpAnyD_take 4 (v := ?_) (by kernel_rfl) (by kernel_rfl) rfl (by kernel_rfl) (by kernel_rfl) (fun _ _ _ h => h) (Or.inl ⟨by rfl, ?_⟩) (by assumption) ?_
      rotate_left
      · (intro wq hSq; (try dsimp only at hSq); go_simp; try with_reducible rfl)
      try simp only [Act.put, List.setIfInBounds_toArray, List.set_cons_zero, List.set_cons_succ]
      refine wpAnyD_take 5 (v := ?_) (by kernel_rfl) (by kernel_rfl) rfl (by kernel_rfl) (by kernel_rfl) (fun _ _ _ h => h) (Or.inl ⟨by rfl, ?_⟩) (by assumption) ?_
      rotate_left
      · (intro wq hSq; (try dsimp only at hSq); go_simp; try with_reducible rfl)
      try simp only [Act.put, List.setIfInBounds_toArray, List.set_cons_zero, List.set_cons_succ]
      have Hx4_0 : Hid (w3.drew.heap[w.heap.size]? = some (.cells #[.bool na, .string sa] 23)) := HK0.out
      have Hx4_2 : Hid (w3.drew.heap[w.heap.size + 1 + 1]? = some (.cells #[.bool false, .string ⟨#[]⟩] 23)) := HK2.out
      have Nx4_C : Hid (World.numR w3.drew (.slice a3 L3 c3) C) := HNC.out
      have Dx4 := Lib.hid (HKD.out.drew)
      clear c00 c01 f0 HK0 HK2 HNC HKD
      generalize w3.drew = x4 at Hx4_0 Hx4_2 Nx4_C Dx4 hHeld ⊢
      refine wpAnyD_keep 1 (by kernel_rfl) rfl (fun K hK => ?_)
      go_simp
      (with_reducible refine (HOA.out _).mono ?_)
      rintro e x5 ⟨v, rfl, ho, hb⟩
      have hn : World.numR x5 v A := ho.reads
      clear ho
      obtain ⟨ax5, Lx5, cx5, rfl⟩ : ∃ a L c, v = .slice a L c := by obtain ⟨x, y, h⟩ := reads_len hn; exact ⟨x, _, y, h⟩
      have Hx5_0 := Lib.hid (hold Hx4_0.out hb)
      have Hx5_2 := Lib.hid (hold Hx4_2.out hb)
      have Nx5_C := Lib.hid (numR_below Nx4_C.out hb)
      have Nx5_x5 := Lib.hid hn
      have Dx5 := Lib.hid (Dx4.out.trans (hb.mono Dx4.out.size))
      obtain ⟨j0, j1, -⟩ := wide_cells Hx5_0.out
      refine hK.out _ _ ⟨j0, j1⟩ (fun hHeldx5 => ?_)
      clear hK K hb hHeld hn j0 j1
      try simp only [Act.put, List.setIfInBounds_toArray, List.set_cons_zero, List.set_cons_succ]
      refine wpAnyD_keep 2 (by kernel_rfl) rfl (fun K hK => ?_)
      go_simp
      (with_reducible refine (HLA.out _ _ Nx5_x5.out).mono ?_)
      rintro e x6 ⟨v, rfl, ho, hb⟩
      have hn : World.numR x6 v NA2 := ho.reads
      clear ho
      obtain ⟨ax6, Lx6, cx6, rfl⟩ : ∃ a L c, v = .slice a L c := by obtain ⟨x, y, h⟩ := reads_len hn; exact ⟨x, _, y, h⟩
      have Hx6_0 := Lib.hid (hold Hx5_0.out hb)
      have Hx6_2 := Lib.hid (hold Hx5_2.out hb)
      have Nx6_C := Lib.hid (numR_below Nx5_C.out hb)
      have Nx6_x6 := Lib.hid hn
      have Dx6 := Lib.hid (Dx5.out.trans (hb.mono Dx5.out.size))
      obtain ⟨j0, j1, -⟩ := wide_cells Hx6_0.out
      refine hK.out _ _ ⟨j0, j1⟩ (fun hHeldx6 => ?_)
      clear hK K hb hHeldx5 hn j0 j1
      try simp only [Act.put, List.setIfInBounds_toArray, List.set_cons_zero, List.set_cons_succ]
      refine wpAnyD_keep 6 (by kernel_rfl) rfl (fun K hK => ?_)
      go_simp
      (with_reducible refine (HSU.out _ _ _ Nx6_x6.out Nx6_C.out).mono ?_)
      rintro e x7 ⟨v, rfl, ho⟩
      have hn : World.numR x7 v N1 := ho.numR
      have hb := ho.bel
      clear ho
      obtain ⟨a7, c7, rfl⟩ := numR_shape hn
      rw [← HL1.out] at hn ⊢
      have Nx7_S := Lib.hid hn
      have Hx7_0 := Lib.hid (hold Hx6_0.out hb)
      have Hx7_2 := Lib.hid (hold Hx6_2.out hb)
      have Nx7_C := Lib.hid (numR_below Nx6_C.out hb)
      have Dx7 := Lib.hid (Dx6.out.trans (hb.mono Dx6.out.size))
      obtain ⟨j0, j1, -⟩ := wide_cells Hx7_0.out
      refine hK.out _ _ ⟨j0, j1⟩ (fun hHeldx7 => ?_)
      clear hK K hb hHeldx6 hn j0 j1
      try simp only [Act.put, List.setIfInBounds_toArray, List.set_cons_zero, List.set_cons_succ]
      refine wpAnyD_take 7 (v := ?_) (by kernel_rfl) (by kernel_rfl) rfl (by kernel_rfl) (by kernel_rfl) (fun _ _ _ h => h) (Or.inl ⟨by rfl, ?_⟩) (by assumption) ?_
      rotate_left
      · (intro wq hSq; (try dsimp only at hSq); go_simp; try with_reducible rfl)
      try simp only [Act.put, List.setIfInBounds_toArray, List.set_cons_zero, List.set_cons_succ]
      refine wpAnyD_take 8 (v := ?_) (by kernel_rfl) (by kernel_rfl) rfl (by kernel_rfl) (by kernel_rfl) (fun _ _ _ h => h) (Or.inl ⟨by rfl, ?_⟩) (by assumption) ?_
      rotate_left
      · (intro wq hSq; (try dsimp only at hSq); go_simp; try with_reducible rfl)
      try simp only [Act.put, List.setIfInBounds_toArray, List.set_cons_zero, List.set_cons_succ]
      refine wpAnyD_take 9 (v := ?_) (by kernel_rfl) (by kernel_rfl) rfl (by kernel_rfl) (by kernel_rfl) (fun _ _ _ h => h) (Or.inl ⟨by rfl, ?_⟩) (by assumption) ?_
      rotate_left
      · (intro wq hSq; (try dsimp only at hSq); go_simp; try with_reducible rfl)
      try simp only [Act.put, List.setIfInBounds_toArray, List.set_cons_zero, List.set_cons_succ]
      refine wpAnyD_take 10 (v := ?_) (by kernel_rfl) (by kernel_rfl) rfl (by kernel_rfl) (by kernel_rfl) (fun _ _ _ h => h) (Or.inl ⟨by rfl, ?_⟩) (by assumption) ?_
      rotate_left
      · (intro wq hSq; (try dsimp only at hSq); go_simp; try with_reducible rfl)
      try simp only [Act.put, List.setIfInBounds_toArray, List.set_cons_zero, List.set_cons_succ]
      refine wpAnyD_take 11 (v := ?_) (by kernel_rfl) (by kernel_rfl) rfl (by kernel_rfl) (by kernel_rfl) (fun _ _ _ h => h) (Or.inl ⟨by rfl, ?_⟩) (by assumption) ?_
      rotate_left
      · (intro wq hSq; (try dsimp only at hSq); go_simp; try with_reducible rfl)
      try simp only [Act.put, List.setIfInBounds_toArray, List.set_cons_zero, List.set_cons_succ]
      refine wpAnyD_end (by kernel_rfl) ?_
      clear hHeldx7
      rcases HCASE.out with ⟨hs, hsb⟩ | ⟨hs, hl, hsb⟩ | ⟨hs, hl, hsb⟩
      · subst hs hsb
        clear HCASE
        go_wp2_with fail
        (with_reducible refine (HLC.out _ _ Nx7_C.out).mono ?_)
        rintro e x8 ⟨v, rfl, ho, hb⟩
        have hn : World.numR x8 v NC2 := ho.reads
        obtain ⟨a8, L8, c8, rfl⟩ : ∃ a L c, v = .slice a L c := by obtain ⟨x, y, h⟩ := reads_len hn; exact ⟨x, _, y, h⟩
        have Hx8_2 := Lib.hid (hold Hx7_2.out hb)
        have Nx8_S := Lib.hid (numR_below Nx7_S.out hb)
        have Nx8_L := Lib.hid hn
        have Dx8 := Lib.hid (Dx7.out.trans (hb.mono Dx7.out.size))
        clear ho hb hn
        go_wp2_with fail
        (with_reducible refine (HFL.out _ _ _ Nx8_S.out Nx8_L.out).mono ?_)
        rintro e x9 ⟨v, u, rfl, hn, hr, hb⟩
        obtain ⟨a9, L9, c9, rfl⟩ : ∃ a L c, v = .slice a L c := by obtain ⟨x, y, h⟩ := reads_len hn; exact ⟨x, _, y, h⟩
        obtain ⟨a10, L10, c10, rfl⟩ : ∃ a L c, u = .slice a L c := by obtain ⟨x, y, h⟩ := reads_len hr; exact ⟨x, _, y, h⟩
        have Hx9_2 := Lib.hid (hold Hx8_2.out hb)
        have Nx9 := Lib.hid hn
        have Dx9 := Lib.hid (Dx8.out.trans (hb.mono Dx8.out.size))
        clear hr hb hn
        go_wp2_with fail
        (with_reducible refine (HFO.out _ _ Nx9.out).mono ?_)
        rintro e y1 ⟨rfl, hby⟩
        have k2 := hold Hx9_2.out hby
        have kD := Dx9.out.trans (hby.mono Dx9.out.size)
        obtain ⟨e20, e21, f2⟩ := wide_cells k2
        have m2 := wide_set k2 fb ft
        have hb9 := below_set2 (p := w.heap.size + 1 + 1) kD (by omega) fb ft
        clear k2 kD hby
        go_wp2
        clear e20 e21 f2
        obtain ⟨d20, d21, -⟩ := wide_cells m2
        clear m2
        generalize (y1.setCell ⟨w.heap.size + 1 + 1, 0, none⟩ (.bool fb)).setCell ⟨w.heap.size + 1 + 1, 1, none⟩ (.string ft) = W9 at d20 d21 hb9 ⊢
        rw [HP.out]
        exact bodyPost_ret (v := .tuple #[.agg #[.bool fb, .string ft], .int .i64 E]) (by simp [results, Try.results34, go_sem, d20, d21]) rfl ⟨rfl, hb9⟩
      · subst hs hsb
        subst hl
        clear HCASE
        go_wp2_with fail
        (with_reducible refine (HLC.out _ _ Nx7_C.out).mono ?_)
        rintro e x8 ⟨v, rfl, ho, hb⟩
        have hn : World.numR x8 v NC2 := ho.reads
        obtain ⟨a8, L8, c8, rfl⟩ : ∃ a L c, v = .slice a L c := by obtain ⟨x, y, h⟩ := reads_len hn; exact ⟨x, _, y, h⟩
        have Hx8_2 := Lib.hid (hold Hx7_2.out hb)
        have Nx8_S := Lib.hid (numR_below Nx7_S.out hb)
        have Nx8_L := Lib.hid hn
        have Dx8 := Lib.hid (Dx7.out.trans (hb.mono Dx7.out.size))
        clear ho hb hn
        go_wp2_with fail
        (with_reducible refine (HFL.out _ _ _ Nx8_S.out Nx8_L.out).mono ?_)
        rintro e x9 ⟨v, u, rfl, hn, hr, hb⟩
        obtain ⟨a9, L9, c9, rfl⟩ : ∃ a L c, v = .slice a L c := by obtain ⟨x, y, h⟩ := reads_len hn; exact ⟨x, _, y, h⟩
        obtain ⟨a10, L10, c10, rfl⟩ : ∃ a L c, u = .slice a L c := by obtain ⟨x, y, h⟩ := reads_len hr; exact ⟨x, _, y, h⟩
        have Hx9_2 := Lib.hid (hold Hx8_2.out hb)
        have Nx9 := Lib.hid hn
        have Dx9 := Lib.hid (Dx8.out.trans (hb.mono Dx8.out.size))
        clear hr hb hn
        go_wp2_with fail
        (with_reducible refine (HFO.out _ _ Nx9.out).mono ?_)
        rintro e y1 ⟨rfl, hby⟩
        have k2 := hold Hx9_2.out hby
        have kD := Dx9.out.trans (hby.mono Dx9.out.size)
        obtain ⟨e20, e21, f2⟩ := wide_cells k2
        have m2 := wide_set k2 fb ft
        have hb9 := below_set2 (p := w.heap.size + 1 + 1) kD (by omega) fb ft
        clear k2 kD hby
        go_wp2
        clear e20 e21 f2
        obtain ⟨d20, d21, -⟩ := wide_cells m2
        clear m2
        generalize (y1.setCell ⟨w.heap.size + 1 + 1, 0, none⟩ (.bool fb)).setCell ⟨w.heap.size + 1 + 1, 1, none⟩ (.string ft) = W9 at d20 d21 hb9 ⊢
        rw [HP.out]
        exact bodyPost_ret (v := .tuple #[.agg #[.bool fb, .string ft], .int .i64 E]) (by simp [results, Try.results34, go_sem, d20, d21]) rfl ⟨rfl, hb9⟩
      · subst hs hsb
        clear HCASE
        go_wp2_with fail
        (with_reducible refine (HLC.out _ _ Nx7_C.out).mono ?_)
        rintro e x8 ⟨v, rfl, ho, hb⟩
        have hn : World.numR x8 v NC2 := ho.reads
        obtain ⟨a8, L8, c8, rfl⟩ : ∃ a L c, v = .slice a L c := by obtain ⟨x, y, h⟩ := reads_len hn; exact ⟨x, _, y, h⟩
        have Hx8_2 := Lib.hid (hold Hx7_2.out hb)
        have Nx8_S := Lib.hid (numR_below Nx7_S.out hb)
        have Nx8_L := Lib.hid hn
        have Dx8 := Lib.hid (Dx7.out.trans (hb.mono Dx7.out.size))
        clear ho hb hn
        go_wp2_with fail
        (with_reducible refine (HFL.out _ _ _ Nx8_S.out Nx8_L.out).mono ?_)
        rintro e x9 ⟨v, u, rfl, hn, hr, hb⟩
        obtain ⟨a9, L9, c9, rfl⟩ : ∃ a L c, v = .slice a L c := by obtain ⟨x, y, h⟩ := reads_len hn; exact ⟨x, _, y, h⟩
        obtain ⟨a10, L10, c10, rfl⟩ : ∃ a L c, u = .slice a L c := by obtain ⟨x, y, h⟩ := reads_len hr; exact ⟨x, _, y, h⟩
        have Hx9_2 := Lib.hid (hold Hx8_2.out hb)
        have Nx9 := Lib.hid hn
        have Dx9 := Lib.hid (Dx8.out.trans (hb.mono Dx8.out.size))
        clear hr hb hn
        go_wp2_with fail
        (with_reducible refine (HFO.out _ _ Nx9.out).mono ?_)
        rintro e y1 ⟨rfl, hby⟩
        have k2 := hold Hx9_2.out hby
        have kD := Dx9.out.trans (hby.mono Dx9.out.size)
        obtain ⟨e20, e21, f2⟩ := wide_cells k2
        have m2 := wide_set k2 fb ft
        have hb9 := below_set2 (p := w.heap.size + 1 + 1) kD (by omega) fb ft
        clear k2 kD hby
        go_wp2
        clear e20 e21 f2
        obtain ⟨d20, d21, -⟩ := wide_cells m2
        clear m2
        generalize (y1.setCell ⟨w.heap.size + 1 + 1, 0, none⟩ (.bool fb)).setCell ⟨w.heap.size + 1 + 1, 1, none⟩ (.string ft) = W9 at d20 d21 hb9 ⊢
        rw [HP.out]
        exact bodyPost_ret (v := .tuple #[.agg #[.bool fb, .string ft], .int .i64 E]) (by simp [results, Try.results34, go_sem, d20, d21]) rfl ⟨rfl, hb9⟩
end Go.Proofs.Ytdfklcmiagmgaaa
