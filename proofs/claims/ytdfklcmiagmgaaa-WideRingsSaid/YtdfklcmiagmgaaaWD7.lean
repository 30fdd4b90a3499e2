/- Walks: a form shifted to the left. -/
import Derived.Test.YtdfklcmiagmgaaaWD6
namespace Go.Proofs.Ytdfklcmiagmgaaa
set_option linter.all false
open Go.RowKit Go.Shelf Go.WideNum
set_option maxRecDepth 100000 in
set_option maxHeartbeats 8000000 in
theorem Shl_ok (na : Bool) (sa : ByteArray) (hsa : sa.size ≤ maxLen) (hv : validB na sa = true) (k : Nat) (hk : k ≤ 4096) (z : Int) (hz : z = (k : Int)) (w : World) :
    Calls Try.prog 49 #[.agg #[.bool na, .string sa], .int .i64 z] w fun e w' => e = .returned (.tuple #[outZ (zOf na (numB sa * 2 ^ k)), .int .i64 (errZ (zOf na (numB sa * 2 ^ k)))]) ∧ Below w.heap.size w w' := by
  subst hz
  obtain ⟨HPOST, hpost⟩ : ∃ X : Ending → World → Prop, X = fun e w' => e = .returned (.tuple #[outZ (zOf na (numB sa * 2 ^ k)), .int .i64 (errZ (zOf na (numB sa * 2 ^ k)))]) ∧ Below w.heap.size w w' := ⟨_, rfl⟩
  rw [← hpost]
  have HP := Lib.hid hpost
  clear hpost
  obtain ⟨W0, hW0⟩ : ∃ W0, W0 = (w.alloc (.cells #[.bool na, .string sa] 23)).alloc (.cells #[.bool false, .string ⟨#[]⟩] 23) := ⟨_, rfl⟩
  have g0 : W0.heap[w.heap.size]? = some (.cells #[.bool na, .string sa] 23) := by rw [hW0]; repeat (first | (refine alloc_last _ _ ?_; simp only [World.size_alloc]; done) | (rw [Below.heap_alloc]; rotate_left; (simp only [World.size_alloc]; omega)))
  have g1 : W0.heap[w.heap.size + 1]? = some (.cells #[.bool false, .string ⟨#[]⟩] 23) := by rw [hW0]; repeat (first | (refine alloc_last _ _ ?_; simp only [World.size_alloc]; done) | (rw [Below.heap_alloc]; rotate_left; (simp only [World.size_alloc]; omega)))
  have hb0 : Below w.heap.size w W0 := by rw [hW0]; exact (((Below.refl _ w).alloc (Nat.le_refl _) _).alloc (by simp) _)
  have HB0 := Lib.hid hb0
  have HG0 := Lib.hid g0
  have HG1 := Lib.hid g1
  obtain ⟨c00, c01, f0⟩ := wide_cells g0
  have HW0 := Lib.hid hW0
  obtain ⟨l1, -, -, s256a⟩ := valid_spec na sa hv
  have hwa := wd_len65 l1
  have HVAL : Hid (∀ W : World, Calls Try.prog 16 #[.agg #[.bool na, .string sa]] W fun e w' => e = .returned (.bool true) ∧ Below W.heap.size W w') := by
    show ∀ W : World, _
    intro W
    have := Valid_wide na sa hsa W
    rwa [hv] at this
  have hofA : Hid (∀ W : World, Calls Try.prog 58 #[.agg #[.bool na, .string sa]] W (NumRet W (numB sa))) := of_wide na sa (by omega)
  obtain ⟨A, hA⟩ : ∃ A, A = numB sa := ⟨_, rfl⟩
  rw [← hA] at hofA hwa HP
  have hHL : Hid (∀ (va : Value) (W : World), World.numR W va A → Calls Try.prog 71 #[va, .int .i64 (k : Int)] W (NumRet W (A * 2 ^ k))) := fun va W h => left_num A k (by omega) va W h (by omega) _ rfl
  obtain ⟨M, hM⟩ : ∃ M, M = A * 2 ^ k := ⟨_, rfl⟩
  have hML : (wd M).length ≤ 2000 := by
    have h1 := wd_vlt A
    obtain ⟨t, ht⟩ : ∃ t, t = 200 := ⟨_, rfl⟩
    have h2 := words_length (B := 4294967296) (by omega) M ((wd A).length + t) (by
      rw [hM, Nat.pow_add]
      refine Nat.mul_lt_mul'' h1 ?_
      rw [show (4294967296 : Nat) = 2 ^ 32 by rfl, ← Nat.pow_mul]
      exact Nat.pow_lt_pow_right (by omega) (by omega))
    unfold wd at *; omega
  rw [← hM] at HP hHL
  have hff : ∃ fb ft, outZ (zOf na M) = .agg #[.bool fb, .string ft] ∧ ∀ (v : Value) (W : World), World.numR W v M → Calls Try.prog 53 #[v, .bool na] W fun e w' => e = .returned (.tuple #[.agg #[.bool fb, .string ft], .int .i64 (errZ (zOf na M))]) ∧ Below W.heap.size W w' := by
    have hwide : ∃ b t, outB na M = .agg #[.bool b, .string t] := by unfold outB emptyW wideV; split <;> exact ⟨_, _, rfl⟩
    obtain ⟨b, t, hbt⟩ := hwide
    refine ⟨b, t, by rw [← outB_z]; exact hbt, fun v W h => ?_⟩
    obtain ⟨b', t', h1, h2⟩ := form_numZ M na v W h hML
    rw [← outB_z, hbt] at h1
    rwa [← h1] at h2
  obtain ⟨fb, ft, hf1, hf2⟩ := hff
  obtain ⟨E, hE⟩ : ∃ E, E = errZ (zOf na M) := ⟨_, rfl⟩
  rw [← hE] at hf2 HP
  rw [hf1] at HP
  have HFF := Lib.hid hf2
  have HML := Lib.hid hML
  clear hb0 g0 g1 hW0 hA hM hML hf1 hf2 hE l1 hwa hv
  go_enter Try.func49, Try.ntmps49
  go_upto_region 1 with (fail)
  rw [← HW0.out]
  have hk1 : ¬ (k : Int) < 0 := by omega
  have hk2 : ¬ (4096 : Int) < (k : Int) := by omega
  go_wp2_with fail
  (with_reducible refine (HVAL.out _).mono ?_)
  rintro e w1 ⟨rfl, hb1⟩
  have k0 := (hb1.block _ (lt_of_heap HG0.out)).trans HG0.out
  have k1 := (hb1.block _ (lt_of_heap HG1.out)).trans HG1.out
  have HBw1 := Lib.hid (HB0.out.trans (hb1.mono HB0.out.size))
  clear c00 c01 f0 hb1
  obtain ⟨c00, c01, f0⟩ := wide_cells k0
  obtain ⟨e10, e11, f1⟩ := wide_cells k1
  have hl0 := lt_of_heap k0
  have hl1 := lt_of_heap k1
  have HK1 := Lib.hid k1
  have HK0 := Lib.hid k0
  have hpq : ¬ w.heap.size = w.heap.size + 1 := by omega
  have hpq2 : ¬ w.heap.size + 1 = w.heap.size := by omega
  clear k0 k1
  go_wp2_with fail
  go_region_held3 (fun w' => (w'.cell? ⟨w.heap.size, 0, none⟩ = some (.bool na) ∧ w'.cell? ⟨w.heap.size, 1, none⟩ = some (.string sa)))
    (first | exact ⟨c00, c01⟩ | (refine ⟨?_, ?_⟩ <;> assumption) | exact ⟨(World.cell?_of_block (a := ⟨w.heap.size, 0, none⟩) (wide_other (by omega) fb ft)).trans d0, (World.cell?_of_block (a := ⟨w.heap.size, 1, none⟩) (wide_other (by omega) fb ft)).trans d1⟩)
    (first
      | (go_simp; go_at_call 58; (with_reducible refine (hofA.out _).mono ?_); rintro e w5 ⟨v5, rfl, ho5, hb5⟩; have H5 : Hid (NumRet _ A (.returned v5) w5) := ⟨v5, rfl, ho5, hb5⟩; have a0 := (hb5.cell (p := ⟨w.heap.size, 0, none⟩) hl0).trans c00; have a1 := (hb5.cell (p := ⟨w.heap.size, 1, none⟩) hl0).trans c01; have hn0 := Nat.lt_of_lt_of_le hl0 hb5.size; clear ho5 hb5)
      | (go_simp; go_at_call 71; (with_reducible refine (hHL.out _ _ H5.out.numR).mono ?_); rintro e w6 ⟨v6, rfl, ho6, hb6⟩; have H6 : Hid (NumRet _ M (.returned v6) w6) := ⟨v6, rfl, ho6, hb6⟩; have b0 := (hb6.cell (p := ⟨w.heap.size, 0, none⟩) hn0).trans a0; have b1 := (hb6.cell (p := ⟨w.heap.size, 1, none⟩) hn0).trans a1; have hm0 := Nat.lt_of_lt_of_le hn0 hb6.size; clear ho6 hb6)
      | (go_simp; go_at_call 53; (with_reducible refine (HFF.out _ _ H6.out.numR).mono ?_); rintro e w7 ⟨rfl, hb7⟩; have d0 := (hb7.cell (p := ⟨w.heap.size, 0, none⟩) hm0).trans b0; have d1 := (hb7.cell (p := ⟨w.heap.size, 1, none⟩) hm0).trans b1; have HB7 := Lib.hid (H5.out.belD.trans ((H6.out.bel.trans (hb7.mono H6.out.bel.size)).mono H5.out.belD.size)); have K17 := (HB7.out.block _ hl1).trans HK1.out; have HK17 := Lib.hid K17; obtain ⟨e20, e21, f2⟩ := wide_cells K17; clear hb7 K17))
  all_goals
    go_wp2
    have m2 := wide_set HK17.out fb ft
    have hb9 := below_set2 (p := w.heap.size + 1) (HBw1.out.trans (HB7.out.mono HBw1.out.size)) (by omega) fb ft
    obtain ⟨d20, d21, -⟩ := wide_cells m2
    clear m2
    generalize (w7.setCell ⟨w.heap.size + 1, 0, none⟩ (.bool fb)).setCell ⟨w.heap.size + 1, 1, none⟩ (.string ft) = W9 at d20 d21 hb9 ⊢
    rw [HP.out]
    exact bodyPost_ret (v := .tuple #[.agg #[.bool fb, .string ft], .int .i64 E]) (by simp [results, Try.results49, go_sem, d20, d21]) rfl ⟨rfl, hb9⟩
end Go.Proofs.Ytdfklcmiagmgaaa
