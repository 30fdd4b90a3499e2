/- Walks: the sum of two forms. -/
import Derived.Test.YtnjblppapmflhaaWQ3
namespace Go.Proofs.Ytnjblppapmflhaa
set_option linter.all false
open Go.RowKit Go.Shelf Go.WideNum
/-- What a function of two integers answers. -/
def opF (f : Int → Int → Int) (na : Bool) (sa : ByteArray) (nb : Bool) (sb : ByteArray) : Value × Int :=
  if validB na sa && validB nb sb then (outZ (f (zV na sa) (zV nb sb)), errZ (f (zV na sa) (zV nb sb))) else (emptyW, 2)
theorem sub_z (A : Nat) (an : Bool) (C : Nat) (bn : Bool) : zOf (sumS A an C (!bn)) (sumN A an C (!bn)) = zOf an A - zOf bn C := by
  rw [sum_z]
  unfold zOf
  cases bn <;> simp <;> omega
theorem mul_z (A : Nat) (an : Bool) (C : Nat) (bn : Bool) : zOf (an != bn) (A * C) = zOf an A * zOf bn C := by
  unfold zOf
  cases an <;> cases bn <;> simp [Int.natCast_mul, Int.mul_neg, Int.neg_mul]
theorem bne_eq (a b : Bool) : (!(a == b)) = (a != b) := rfl
theorem sumN_le (A : Nat) (an : Bool) (C : Nat) (bn : Bool) : sumN A an C bn ≤ A + C := by
  unfold sumN
  split
  · exact Nat.le_refl _
  · split <;> omega
theorem wd_len_sum {A C n : Nat} (ha : (wd A).length ≤ 64) (hc : (wd C).length ≤ 64) (h : n ≤ A + C) : (wd n).length ≤ 65 := by
  have h1 := wd_vlt A
  have h2 := wd_vlt C
  have hp : (4294967296 : Nat) ^ (wd A).length ≤ 4294967296 ^ 64 := Nat.pow_le_pow_right (by omega) ha
  have hp2 : (4294967296 : Nat) ^ (wd C).length ≤ 4294967296 ^ 64 := Nat.pow_le_pow_right (by omega) hc
  exact words_length (by omega) n 65 (by rw [show (65 : Nat) = 64 + 1 by rfl, Nat.pow_succ]; omega)
theorem wd_len_prod {A C : Nat} (ha : (wd A).length ≤ 64) (hc : (wd C).length ≤ 64) : (wd (A * C)).length ≤ 128 := by
  have h1 := wd_vlt A
  have h2 := wd_vlt C
  have hp : (4294967296 : Nat) ^ (wd A).length ≤ 4294967296 ^ 64 := Nat.pow_le_pow_right (by omega) ha
  have hp2 : (4294967296 : Nat) ^ (wd C).length ≤ 4294967296 ^ 64 := Nat.pow_le_pow_right (by omega) hc
  exact words_length (by omega) (A * C) 128 (by
    rw [show (128 : Nat) = 64 + 64 by rfl, Nat.pow_add]
    exact Nat.mul_lt_mul'' (Nat.lt_of_lt_of_le h1 hp) (Nat.lt_of_lt_of_le h2 hp2))
theorem sum_num (A C : Nat) (an bn : Bool) (va vb : Value) (w : World) (hA : World.numR w va A) (hC : World.numR w vb C) (hla : (wd A).length ≤ 2000) (hlc : (wd C).length ≤ 2000) :
    Calls Try.prog 95 #[va, .bool an, vb, .bool bn] w fun e w' => (∃ v, e = .returned (.tuple #[v, .bool (sumS A an C bn)]) ∧ World.numR w' v (sumN A an C bn)) ∧ Below w.heap.size w w' :=
  (sum_any A C an bn va vb w hA hC hla hlc).mono fun e w' ⟨v, he, hr⟩ => ⟨⟨v, he, hr.numR⟩, hr.bel⟩
theorem times_num (A C : Nat) (va vb : Value) (w : World) (hA : World.numR w va A) (hC : World.numR w vb C) (hl : (wd A).length + (wd C).length ≤ 134) :
    Calls Try.prog 77 #[va, vb] w fun e w' => (∃ v, e = .returned v ∧ World.numR w' v (A * C)) ∧ Below w.heap.size w w' :=
  (times_any A C va vb w hA hC hl).mono fun e w' hr => by
    obtain ⟨v, rfl, h1, h2⟩ := hr
    exact ⟨⟨v, rfl, h1.reads⟩, h2⟩
set_option maxRecDepth 100000 in
set_option maxHeartbeats 8000000 in
theorem Add_any (na : Bool) (sa : ByteArray) (nb : Bool) (sb : ByteArray) (hsa : sa.size ≤ maxLen) (hsb : sb.size ≤ maxLen) (w : World) :
    Calls Try.prog 81 #[.agg #[.bool na, .string sa], .agg #[.bool nb, .string sb]] w fun e w' => e = .returned (.tuple #[(opF (fun a b => a + b) na sa nb sb).1, .int .i64 (opF (fun a b => a + b) na sa nb sb).2]) ∧ Below w.heap.size w w' := by
  obtain ⟨HPOST, hpost⟩ : ∃ X : Ending → World → Prop, X = fun e w' => e = .returned (.tuple #[(opF (fun a b => a + b) na sa nb sb).1, .int .i64 (opF (fun a b => a + b) na sa nb sb).2]) ∧ Below w.heap.size w w' := ⟨_, rfl⟩
  rw [← hpost]
  have HP := Lib.hid hpost
  clear hpost
  obtain ⟨W0, hW0⟩ : ∃ W0, W0 = ((w.alloc (.cells #[.bool na, .string sa] 38)).alloc (.cells #[.bool nb, .string sb] 38)).alloc (.cells #[.bool false, .string ⟨#[]⟩] 38) := ⟨_, rfl⟩
  have g0 : W0.heap[w.heap.size]? = some (.cells #[.bool na, .string sa] 38) := by rw [hW0]; repeat (first | (refine alloc_last _ _ ?_; simp only [World.size_alloc]; done) | (rw [Below.heap_alloc]; rotate_left; (simp only [World.size_alloc]; omega)))
  have g1 : W0.heap[w.heap.size + 1]? = some (.cells #[.bool nb, .string sb] 38) := by rw [hW0]; repeat (first | (refine alloc_last _ _ ?_; simp only [World.size_alloc]; done) | (rw [Below.heap_alloc]; rotate_left; (simp only [World.size_alloc]; omega)))
  have g2 : W0.heap[w.heap.size + 1 + 1]? = some (.cells #[.bool false, .string ⟨#[]⟩] 38) := by rw [hW0]; repeat (first | (refine alloc_last _ _ ?_; simp only [World.size_alloc]; done) | (rw [Below.heap_alloc]; rotate_left; (simp only [World.size_alloc]; omega)))
  have hb0 : Below w.heap.size w W0 := by rw [hW0]; exact ((((Below.refl _ w).alloc (Nat.le_refl _) _).alloc (by simp) _).alloc (by simp; omega) _)
  have HB0 := Lib.hid hb0
  have HG0 := Lib.hid g0
  have HG1 := Lib.hid g1
  have HG2 := Lib.hid g2
  obtain ⟨c00, c01, f0⟩ := wide_cells g0
  obtain ⟨c10, c11, f1⟩ := wide_cells g1
  have HW0 := Lib.hid hW0
  clear hb0 g0 g1 g2 hW0
  go_enter Try.func81, Try.ntmps81
  go_upto_region 1 with (fail)
  rw [← HW0.out]
  go_wp2_with fail
  obtain ⟨ok, hok⟩ : ∃ ok, ok = (validB na sa && validB nb sb) := ⟨_, rfl⟩
  have hval := valid2_any na sa nb sb hsa hsb (W0.alloc (.cells #[.bool na, .string sa, .bool nb, .string sb] 38)) W0.heap.size (heap_alloc_new W0 _)
  rw [← hok] at hval
  have HOK := Lib.hid hok
  clear hok
  (with_reducible refine hval.mono ?_)
  clear hval
  rintro e w1 ⟨rfl, hb1⟩
  have hb01 : Below W0.heap.size W0 w1 := ((Below.refl _ W0).alloc (Nat.le_refl _) _).trans (hb1.mono (by simp))
  have k0 := (hb01.block _ (lt_of_heap HG0.out)).trans HG0.out
  have k1 := (hb01.block _ (lt_of_heap HG1.out)).trans HG1.out
  have k2 := (hb01.block _ (lt_of_heap HG2.out)).trans HG2.out
  have HK2 := Lib.hid k2
  have HBw1 := Lib.hid (HB0.out.trans (hb01.mono HB0.out.size))
  clear c00 c01 f0 c10 c11 f1 hb1
  obtain ⟨c00, c01, f0⟩ := wide_cells k0
  obtain ⟨c10, c11, f1⟩ := wide_cells k1
  obtain ⟨e20, e21, f2⟩ := wide_cells k2
  have hl0 := lt_of_heap k0
  have hl1 := lt_of_heap k1
  have hl2 := lt_of_heap k2
  clear k0 k1 k2 hb01
  cases ok with
  | false =>
    have hres : Hid (opF (fun a b => a + b) na sa nb sb = (emptyW, 2)) := by show _ = _; unfold opF; rw [← HOK.out]; rfl
    go_wp2
    have m2 := wide_set HK2.out false ⟨#[]⟩
    have hb9 := below_set2 (p := w.heap.size + 1 + 1) HBw1.out (by omega) false ⟨#[]⟩
    obtain ⟨d20, d21, -⟩ := wide_cells m2
    clear m2 e20 e21 f2
    generalize (w1.setCell ⟨w.heap.size + 1 + 1, 0, none⟩ (.bool false)).setCell ⟨w.heap.size + 1 + 1, 1, none⟩ (.string ⟨#[]⟩) = W9 at d20 d21 hb9 ⊢
    rw [HP.out]
    exact bodyPost_ret (v := .tuple #[emptyW, .int .i64 2]) (by simp [results, Try.results81, go_sem, d20, d21]; rfl) rfl ⟨by rw [hres.out], hb9⟩
  | true =>
    have hv : validB na sa = true ∧ validB nb sb = true := by
      have := HOK.out
      cases h1 : validB na sa <;> cases h2 : validB nb sb <;> rw [h1, h2] at this <;> first | exact ⟨rfl, rfl⟩ | cases this
    obtain ⟨l1, -, -, s256a⟩ := valid_spec na sa hv.1
    obtain ⟨l2, -, -, s256b⟩ := valid_spec nb sb hv.2
    have hofA : Hid (∀ W : World, Calls Try.prog 78 #[.agg #[.bool na, .string sa]] W (NumRet W (numB sa))) := of_wide na sa (by omega)
    have hofB : Hid (∀ W : World, Calls Try.prog 78 #[.agg #[.bool nb, .string sb]] W (NumRet W (numB sb))) := of_wide nb sb (by omega)
    have hwa := wd_len65 l1
    have hwb := wd_len65 l2
    have hres : opF (fun a b => a + b) na sa nb sb = (outZ ((fun a b => a + b) (zV na sa) (zV nb sb)), errZ ((fun a b => a + b) (zV na sa) (zV nb sb))) := by unfold opF; rw [← HOK.out]; rfl
    unfold zV at hres
    obtain ⟨A, hA⟩ : ∃ A, A = numB sa := ⟨_, rfl⟩
    obtain ⟨C, hC⟩ : ∃ C, C = numB sb := ⟨_, rfl⟩
    rw [← hA, ← hC] at hres
    rw [← hA] at hofA hwa
    rw [← hC] at hofB hwb
    have HSUM : Hid (∀ (va vb : Value) (W : World) (b' : Bool), World.numR W va A → World.numR W vb C → b' = nb → Calls Try.prog 95 #[va, .bool na, vb, .bool b'] W fun e w' => (∃ v, e = .returned (.tuple #[v, .bool (sumS A na C (nb))]) ∧ World.numR w' v (sumN A na C (nb))) ∧ Below W.heap.size W w') := fun va vb W b' h1 h2 h3 => by rw [h3]; exact sum_num A C na (nb) va vb W h1 h2 (by omega) (by omega)
    obtain ⟨S, hS⟩ : ∃ S, S = sumS A na C (nb) := ⟨_, rfl⟩
    obtain ⟨M, hMM⟩ : ∃ M, M = sumN A na C (nb) := ⟨_, rfl⟩
    have hML : (wd M).length ≤ 65 := wd_len_sum hwa hwb (by rw [hMM]; exact sumN_le _ _ _ _)
    rw [show (fun a b => a + b) (zOf na A) (zOf nb C) = zOf S M by rw [hS, hMM]; exact (sum_z A na C nb).symm] at hres
    rw [← hS, ← hMM] at HSUM
    clear hS
    have hff : ∃ fb ft, outZ (zOf S M) = .agg #[.bool fb, .string ft] ∧ ∀ (v : Value) (W : World) (S' : Bool), World.numR W v M → S' = S → Calls Try.prog 67 #[v, .bool S'] W fun e w' => e = .returned (.tuple #[.agg #[.bool fb, .string ft], .int .i64 (errZ (zOf S M))]) ∧ Below W.heap.size W w' := by
      have hwide : ∃ b t, outB S M = .agg #[.bool b, .string t] := by unfold outB emptyW wideV; split <;> exact ⟨_, _, rfl⟩
      obtain ⟨b, t, hbt⟩ := hwide
      refine ⟨b, t, by rw [← outB_z]; exact hbt, fun v W S' h hS => ?_⟩
      subst hS
      obtain ⟨b', t', h1, h2⟩ := form_numZ M S' v W h (by omega)
      rw [← outB_z, hbt] at h1
      rwa [← h1] at h2
    obtain ⟨fb, ft, hf1, hf2⟩ := hff
    obtain ⟨E, hE⟩ : ∃ E, E = errZ (zOf S M) := ⟨_, rfl⟩
    rw [hf1, ← hE] at hres
    rw [← hE] at hf2
    have HFF := Lib.hid hf2
    have HRES := Lib.hid hres
    skip
    clear hres hf1 hf2 hE hA hC l1 l2 hwa hwb hv hML hMM
    go_wp2_with fail
    go_region_held3 (fun w' => (w'.cell? ⟨w.heap.size, 0, none⟩ = some (.bool na) ∧ w'.cell? ⟨w.heap.size, 1, none⟩ = some (.string sa) ∧ w'.cell? ⟨w.heap.size + 1, 0, none⟩ = some (.bool nb) ∧ w'.cell? ⟨w.heap.size + 1, 1, none⟩ = some (.string sb)))
      (first | exact ⟨c00, c01, c10, c11⟩ | (refine ⟨?_, ?_, ?_, ?_⟩ <;> assumption) | exact ⟨(World.cell?_of_block (a := ⟨w.heap.size, 0, none⟩) (wide_other (p := w.heap.size) (q := w.heap.size + 1 + 1) (by omega) fb ft)).trans q0, (World.cell?_of_block (a := ⟨w.heap.size, 1, none⟩) (wide_other (p := w.heap.size) (q := w.heap.size + 1 + 1) (by omega) fb ft)).trans q1, (World.cell?_of_block (a := ⟨w.heap.size + 1, 0, none⟩) (wide_other (p := w.heap.size + 1) (q := w.heap.size + 1 + 1) (by omega) fb ft)).trans q2, (World.cell?_of_block (a := ⟨w.heap.size + 1, 1, none⟩) (wide_other (p := w.heap.size + 1) (q := w.heap.size + 1 + 1) (by omega) fb ft)).trans q3⟩)
      (first
        | (go_simp; go_at_call 78; (with_reducible refine (hofA.out _).mono ?_); rintro e w5 ⟨v5, rfl, ho5, hb5⟩; have H5 : Hid (NumRet _ A (.returned v5) w5) := ⟨v5, rfl, ho5, hb5⟩; have a0 := (hb5.cell (p := ⟨w.heap.size, 0, none⟩) hl0).trans c00; have a1 := (hb5.cell (p := ⟨w.heap.size, 1, none⟩) hl0).trans c01; have a2 := (hb5.cell (p := ⟨w.heap.size + 1, 0, none⟩) hl1).trans c10; have a3 := (hb5.cell (p := ⟨w.heap.size + 1, 1, none⟩) hl1).trans c11; have ha0 := Nat.lt_of_lt_of_le hl0 hb5.size; have ha1 := Nat.lt_of_lt_of_le hl1 hb5.size;  clear ho5 hb5)
        | (go_simp; go_at_call 78; (with_reducible refine (hofB.out _).mono ?_); rintro e w6 ⟨v6, rfl, ho6, hb6⟩; have H6 : Hid (NumRet _ C (.returned v6) w6) := ⟨v6, rfl, ho6, hb6⟩; have b0 := (hb6.cell (p := ⟨w.heap.size, 0, none⟩) ha0).trans a0; have b1 := (hb6.cell (p := ⟨w.heap.size, 1, none⟩) ha0).trans a1; have b2 := (hb6.cell (p := ⟨w.heap.size + 1, 0, none⟩) ha1).trans a2; have b3 := (hb6.cell (p := ⟨w.heap.size + 1, 1, none⟩) ha1).trans a3; have hb_0 := Nat.lt_of_lt_of_le ha0 hb6.size; have hb_1 := Nat.lt_of_lt_of_le ha1 hb6.size;  clear ho6 hb6)
        | (go_simp; go_at_call 95; (with_reducible refine (HSUM.out _ _ _ _ (numR_below H5.out.numR H6.out.bel) H6.out.numR rfl).mono ?_); rintro e w7 ⟨⟨v7, rfl, h7⟩, hb7⟩; have H7 : Hid (World.numR w7 v7 M) := h7; have HB7 := Lib.hid hb7; have d0 := (hb7.cell (p := ⟨w.heap.size, 0, none⟩) hb_0).trans b0; have d1 := (hb7.cell (p := ⟨w.heap.size, 1, none⟩) hb_0).trans b1; have d2 := (hb7.cell (p := ⟨w.heap.size + 1, 0, none⟩) hb_1).trans b2; have d3 := (hb7.cell (p := ⟨w.heap.size + 1, 1, none⟩) hb_1).trans b3; have hd_0 := Nat.lt_of_lt_of_le hb_0 hb7.size; have hd_1 := Nat.lt_of_lt_of_le hb_1 hb7.size;  clear h7 hb7)
        | (go_simp; go_at_call 67; (with_reducible refine (HFF.out _ _ _ H7.out rfl).mono ?_); rintro e w8 ⟨rfl, hb8⟩; have q0 := (hb8.cell (p := ⟨w.heap.size, 0, none⟩) hd_0).trans d0; have q1 := (hb8.cell (p := ⟨w.heap.size, 1, none⟩) hd_0).trans d1; have q2 := (hb8.cell (p := ⟨w.heap.size + 1, 0, none⟩) hd_1).trans d2; have q3 := (hb8.cell (p := ⟨w.heap.size + 1, 1, none⟩) hd_1).trans d3; have hq_0 := Nat.lt_of_lt_of_le hd_0 hb8.size; have hq_1 := Nat.lt_of_lt_of_le hd_1 hb8.size;  have HB8 := Lib.hid (H5.out.belD.trans (((H6.out.bel.trans (HB7.out.mono H6.out.bel.size)).trans (hb8.mono (Nat.le_trans H6.out.bel.size HB7.out.size))).mono H5.out.belD.size)); have K28 := (HB8.out.block _ hl2).trans HK2.out; have HK28 := Lib.hid K28; obtain ⟨e28, e29, f28⟩ := wide_cells K28; clear hb8 K28))
    all_goals
      go_wp2
      have m2 := wide_set HK28.out fb ft
      have hb9 := below_set2 (p := w.heap.size + 1 + 1) (HBw1.out.trans (HB8.out.mono HBw1.out.size)) (by omega) fb ft
      obtain ⟨d20, d21, -⟩ := wide_cells m2
      clear m2
      generalize (w8.setCell ⟨w.heap.size + 1 + 1, 0, none⟩ (.bool fb)).setCell ⟨w.heap.size + 1 + 1, 1, none⟩ (.string ft) = W9 at d20 d21 hb9 ⊢
      rw [HP.out]
      exact bodyPost_ret (v := .tuple #[.agg #[.bool fb, .string ft], .int .i64 E]) (by simp [results, Try.results81, go_sem, d20, d21]) rfl ⟨by rw [HRES.out], hb9⟩
end Go.Proofs.Ytnjblppapmflhaa
