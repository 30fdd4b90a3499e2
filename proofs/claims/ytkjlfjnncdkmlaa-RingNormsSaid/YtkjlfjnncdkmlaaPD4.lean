/- Helpers and walks, in one text. -/
import Derived.Test.YtkjlfjnncdkmlaaPD3
/- Walks: the sum of two forms. -/
namespace Go.Proofs.Ytkjlfjnncdkmlaa
set_option linter.all false
open Go.RowKit Go.Shelf Go.WideNum
/-- What a function of two integers answers. -/
def opF (f : Int → Int → Int) (na : Bool) (sa : ByteArray) (nb : Bool) (sb : ByteArray) : Value × Int :=
  if validB na sa && validB nb sb then (outZ (f (zV na sa) (zV nb sb)), errZ (f (zV na sa) (zV nb sb))) else (emptyW, 2)
theorem mul_z (A : Nat) (an : Bool) (C : Nat) (bn : Bool) : zOf (an != bn) (A * C) = zOf an A * zOf bn C := by
  unfold zOf
  cases an <;> cases bn <;> simp [Int.natCast_mul, Int.mul_neg, Int.neg_mul]
theorem bne_eq (a b : Bool) : (!(a == b)) = (a != b) := rfl
theorem sumN_le (A : Nat) (an : Bool) (C : Nat) (bn : Bool) : sumN A an C bn ≤ A + C := by
  unfold sumN
  split
  · exact Nat.le_refl _
  · split <;> omega
theorem wd_len_sum {A C n : Nat} (ha : (wd A).length ≤ 64) (hc : (wd C).length ≤ 64) (h : n ≤ A + C) : (wd n).length ≤ 65 := by
  have h1 := wd_vlt A
  have h2 := wd_vlt C
  have hp : (4294967296 : Nat) ^ (wd A).length ≤ 4294967296 ^ 64 := Nat.pow_le_pow_right (by omega) ha
  have hp2 : (4294967296 : Nat) ^ (wd C).length ≤ 4294967296 ^ 64 := Nat.pow_le_pow_right (by omega) hc
  exact words_length (by omega) n 65 (by rw [show (65 : Nat) = 64 + 1 by rfl, Nat.pow_succ]; omega)
theorem wd_len_prod {A C : Nat} (ha : (wd A).length ≤ 64) (hc : (wd C).length ≤ 64) : (wd (A * C)).length ≤ 128 := by
  have h1 := wd_vlt A
  have h2 := wd_vlt C
  have hp : (4294967296 : Nat) ^ (wd A).length ≤ 4294967296 ^ 64 := Nat.pow_le_pow_right (by omega) ha
  have hp2 : (4294967296 : Nat) ^ (wd C).length ≤ 4294967296 ^ 64 := Nat.pow_le_pow_right (by omega) hc
  exact words_length (by omega) (A * C) 128 (by
    rw [show (128 : Nat) = 64 + 64 by rfl, Nat.pow_add]
    exact Nat.mul_lt_mul'' (Nat.lt_of_lt_of_le h1 hp) (Nat.lt_of_lt_of_le h2 hp2))
theorem sum_num (A C : Nat) (an bn : Bool) (va vb : Value) (w : World) (hA : World.numR w va A) (hC : World.numR w vb C) (hla : (wd A).length ≤ 2000) (hlc : (wd C).length ≤ 2000) :
    Calls Try.prog 120 #[va, .bool an, vb, .bool bn] w fun e w' => (∃ v, e = .returned (.tuple #[v, .bool (sumS A an C bn)]) ∧ World.numR w' v (sumN A an C bn)) ∧ Below w.heap.size w w' :=
  (sum_any A C an bn va vb w hA hC hla hlc).mono fun e w' ⟨v, he, hr⟩ => ⟨⟨v, he, hr.numR⟩, hr.bel⟩
theorem times_num (A C : Nat) (va vb : Value) (w : World) (hA : World.numR w va A) (hC : World.numR w vb C) (hl : (wd A).length + (wd C).length ≤ 134) :
    Calls Try.prog 105 #[va, vb] w fun e w' => (∃ v, e = .returned v ∧ World.numR w' v (A * C)) ∧ Below w.heap.size w w' :=
  (times_any A C va vb w hA hC hl).mono fun e w' hr => by
    obtain ⟨v, rfl, h1, h2⟩ := hr
    exact ⟨⟨v, rfl, h1.reads⟩, h2⟩
set_option maxRecDepth 100000 in
set_option maxHeartbeats 8000000 in
theorem Add_any (na : Bool) (sa : ByteArray) (nb : Bool) (sb : ByteArray) (hsa : sa.size ≤ maxLen) (hsb : sb.size ≤ maxLen) (w : World) :
    Calls Try.prog 108 #[.agg #[.bool na, .string sa], .agg #[.bool nb, .string sb]] w fun e w' => e = .returned (.tuple #[(opF (fun a b => a + b) na sa nb sb).1, .int .i64 (opF (fun a b => a + b) na sa nb sb).2]) ∧ Below w.heap.size w w' := by
  obtain ⟨HPOST, hpost⟩ : ∃ X : Ending → World → Prop, X = fun e w' => e = .returned (.tuple #[(opF (fun a b => a + b) na sa nb sb).1, .int .i64 (opF (fun a b => a + b) na sa nb sb).2]) ∧ Below w.heap.size w w' := ⟨_, rfl⟩
  rw [← hpost]
  have HP := Lib.hid hpost
  clear hpost
  obtain ⟨W0, hW0⟩ : ∃ W0, W0 = ((w.alloc (.cells #[.bool na, .string sa] 42)).alloc (.cells #[.bool nb, .string sb] 42)).alloc (.cells #[.bool false, .string ⟨#[]⟩] 42) := ⟨_, rfl⟩
  have g0 : W0.heap[w.heap.size]? = some (.cells #[.bool na, .string sa] 42) := by rw [hW0]; repeat (first | (refine alloc_last _ _ ?_; simp only [World.size_alloc]; done) | (rw [Below.heap_alloc]; rotate_left; (simp only [World.size_alloc]; omega)))
  have g1 : W0.heap[w.heap.size + 1]? = some (.cells #[.bool nb, .string sb] 42) := by rw [hW0]; repeat (first | (refine alloc_last _ _ ?_; simp only [World.size_alloc]; done) | (rw [Below.heap_alloc]; rotate_left; (simp only [World.size_alloc]; omega)))
  have g2 : W0.heap[w.heap.size + 1 + 1]? = some (.cells #[.bool false, .string ⟨#[]⟩] 42) := by rw [hW0]; repeat (first | (refine alloc_last _ _ ?_; simp only [World.size_alloc]; done) | (rw [Below.heap_alloc]; rotate_left; (simp only [World.size_alloc]; omega)))
  have hb0 : Below w.heap.size w W0 := by rw [hW0]; exact ((((Below.refl _ w).alloc (Nat.le_refl _) _).alloc (by simp) _).alloc (by simp; omega) _)
  have HB0 := Lib.hid hb0
  have HG0 := Lib.hid g0
  have HG1 := Lib.hid g1
  have HG2 := Lib.hid g2
  obtain ⟨c00, c01, f0⟩ := wide_cells g0
  obtain ⟨c10, c11, f1⟩ := wide_cells g1
  have HW0 := Lib.hid hW0
  clear hb0 g0 g1 g2 hW0
  go_enter Try.func108, Try.ntmps108
  go_upto_region 1 with (fail)
  rw [← HW0.out]
  go_wp2_with fail
  obtain ⟨ok, hok⟩ : ∃ ok, ok = (validB na sa && validB nb sb) := ⟨_, rfl⟩
  have hval := valid2_any na sa nb sb hsa hsb (W0.alloc (.cells #[.bool na, .string sa, .bool nb, .string sb] 42)) W0.heap.size (heap_alloc_new W0 _)
  rw [← hok] at hval
  have HOK := Lib.hid hok
  clear hok
  (with_reducible refine hval.mono ?_)
  clear hval
  rintro e w1 ⟨rfl, hb1⟩
  have hb01 : Below W0.heap.size W0 w1 := ((Below.refl _ W0).alloc (Nat.le_refl _) _).trans (hb1.mono (by simp))
  have k0 := (hb01.block _ (lt_of_heap HG0.out)).trans HG0.out
  have k1 := (hb01.block _ (lt_of_heap HG1.out)).trans HG1.out
  have k2 := (hb01.block _ (lt_of_heap HG2.out)).trans HG2.out
  have HK2 := Lib.hid k2
  have HBw1 := Lib.hid (HB0.out.trans (hb01.mono HB0.out.size))
  clear c00 c01 f0 c10 c11 f1 hb1
  obtain ⟨c00, c01, f0⟩ := wide_cells k0
  obtain ⟨c10, c11, f1⟩ := wide_cells k1
  obtain ⟨e20, e21, f2⟩ := wide_cells k2
  have hl0 := lt_of_heap k0
  have hl1 := lt_of_heap k1
  have hl2 := lt_of_heap k2
  clear k0 k1 k2 hb01
  cases ok with
  | false =>
    have hres : Hid (opF (fun a b => a + b) na sa nb sb = (emptyW, 2)) := by show _ = _; unfold opF; rw [← HOK.out]; rfl
    go_wp2
    have m2 := wide_set HK2.out false ⟨#[]⟩
    have hb9 := below_set2 (p := w.heap.size + 1 + 1) HBw1.out (by omega) false ⟨#[]⟩
    obtain ⟨d20, d21, -⟩ := wide_cells m2
    clear m2 e20 e21 f2
    generalize (w1.setCell ⟨w.heap.size + 1 + 1, 0, none⟩ (.bool false)).setCell ⟨w.heap.size + 1 + 1, 1, none⟩ (.string ⟨#[]⟩) = W9 at d20 d21 hb9 ⊢
    rw [HP.out]
    exact bodyPost_ret (v := .tuple #[emptyW, .int .i64 2]) (by simp [results, Try.results108, go_sem, d20, d21]; rfl) rfl ⟨by rw [hres.out], hb9⟩
  | true =>
    have hv : validB na sa = true ∧ validB nb sb = true := by
      have := HOK.out
      cases h1 : validB na sa <;> cases h2 : validB nb sb <;> rw [h1, h2] at this <;> first | exact ⟨rfl, rfl⟩ | cases this
    obtain ⟨l1, -, -, s256a⟩ := valid_spec na sa hv.1
    obtain ⟨l2, -, -, s256b⟩ := valid_spec nb sb hv.2
    have hofA : Hid (∀ W : World, Calls Try.prog 106 #[.agg #[.bool na, .string sa]] W (NumRet W (numB sa))) := of_wide na sa (by omega)
    have hofB : Hid (∀ W : World, Calls Try.prog 106 #[.agg #[.bool nb, .string sb]] W (NumRet W (numB sb))) := of_wide nb sb (by omega)
    have hwa := wd_len65 l1
    have hwb := wd_len65 l2
    have hres : opF (fun a b => a + b) na sa nb sb = (outZ ((fun a b => a + b) (zV na sa) (zV nb sb)), errZ ((fun a b => a + b) (zV na sa) (zV nb sb))) := by unfold opF; rw [← HOK.out]; rfl
    unfold zV at hres
    obtain ⟨A, hA⟩ : ∃ A, A = numB sa := ⟨_, rfl⟩
    obtain ⟨C, hC⟩ : ∃ C, C = numB sb := ⟨_, rfl⟩
    rw [← hA, ← hC] at hres
    rw [← hA] at hofA hwa
    rw [← hC] at hofB hwb
    have HSUM : Hid (∀ (va vb : Value) (W : World) (b' : Bool), World.numR W va A → World.numR W vb C → b' = nb → Calls Try.prog 120 #[va, .bool na, vb, .bool b'] W fun e w' => (∃ v, e = .returned (.tuple #[v, .bool (sumS A na C (nb))]) ∧ World.numR w' v (sumN A na C (nb))) ∧ Below W.heap.size W w') := fun va vb W b' h1 h2 h3 => by rw [h3]; exact sum_num A C na (nb) va vb W h1 h2 (by omega) (by omega)
    obtain ⟨S, hS⟩ : ∃ S, S = sumS A na C (nb) := ⟨_, rfl⟩
    obtain ⟨M, hMM⟩ : ∃ M, M = sumN A na C (nb) := ⟨_, rfl⟩
    have hML : (wd M).length ≤ 65 := wd_len_sum hwa hwb (by rw [hMM]; exact sumN_le _ _ _ _)
    rw [show (fun a b => a + b) (zOf na A) (zOf nb C) = zOf S M by rw [hS, hMM]; exact (sum_z A na C nb).symm] at hres
    rw [← hS, ← hMM] at HSUM
    clear hS
    have hff : ∃ fb ft, outZ (zOf S M) = .agg #[.bool fb, .string ft] ∧ ∀ (v : Value) (W : World) (S' : Bool), World.numR W v M → S' = S → Calls Try.prog 102 #[v, .bool S'] W fun e w' => e = .returned (.tuple #[.agg #[.bool fb, .string ft], .int .i64 (errZ (zOf S M))]) ∧ Below W.heap.size W w' := by
      have hwide : ∃ b t, outB S M = .agg #[.bool b, .string t] := by unfold outB emptyW wideV; split <;> exact ⟨_, _, rfl⟩
      obtain ⟨b, t, hbt⟩ := hwide
      refine ⟨b, t, by rw [← outB_z]; exact hbt, fun v W S' h hS => ?_⟩
      subst hS
      obtain ⟨b', t', h1, h2⟩ := form_numZ M S' v W h (by omega)
      rw [← outB_z, hbt] at h1
      rwa [← h1] at h2
    obtain ⟨fb, ft, hf1, hf2⟩ := hff
    obtain ⟨E, hE⟩ : ∃ E, E = errZ (zOf S M) := ⟨_, rfl⟩
    rw [hf1, ← hE] at hres
    rw [← hE] at hf2
    have HFF := Lib.hid hf2
    have HRES := Lib.hid hres
    skip
    clear hres hf1 hf2 hE hA hC l1 l2 hwa hwb hv hML hMM
    go_wp2_with fail
    go_region_held3 (fun w' => (w'.cell? ⟨w.heap.size, 0, none⟩ = some (.bool na) ∧ w'.cell? ⟨w.heap.size, 1, none⟩ = some (.string sa) ∧ w'.cell? ⟨w.heap.size + 1, 0, none⟩ = some (.bool nb) ∧ w'.cell? ⟨w.heap.size + 1, 1, none⟩ = some (.string sb)))
      (first | exact ⟨c00, c01, c10, c11⟩ | (refine ⟨?_, ?_, ?_, ?_⟩ <;> assumption) | exact ⟨(World.cell?_of_block (a := ⟨w.heap.size, 0, none⟩) (wide_other (p := w.heap.size) (q := w.heap.size + 1 + 1) (by omega) fb ft)).trans q0, (World.cell?_of_block (a := ⟨w.heap.size, 1, none⟩) (wide_other (p := w.heap.size) (q := w.heap.size + 1 + 1) (by omega) fb ft)).trans q1, (World.cell?_of_block (a := ⟨w.heap.size + 1, 0, none⟩) (wide_other (p := w.heap.size + 1) (q := w.heap.size + 1 + 1) (by omega) fb ft)).trans q2, (World.cell?_of_block (a := ⟨w.heap.size + 1, 1, none⟩) (wide_other (p := w.heap.size + 1) (q := w.heap.size + 1 + 1) (by omega) fb ft)).trans q3⟩)
      (first
        | (go_simp; go_at_call 106; (with_reducible refine (hofA.out _).mono ?_); rintro e w5 ⟨v5, rfl, ho5, hb5⟩; have H5 : Hid (NumRet _ A (.returned v5) w5) := ⟨v5, rfl, ho5, hb5⟩; have a0 := (hb5.cell (p := ⟨w.heap.size, 0, none⟩) hl0).trans c00; have a1 := (hb5.cell (p := ⟨w.heap.size, 1, none⟩) hl0).trans c01; have a2 := (hb5.cell (p := ⟨w.heap.size + 1, 0, none⟩) hl1).trans c10; have a3 := (hb5.cell (p := ⟨w.heap.size + 1, 1, none⟩) hl1).trans c11; have ha0 := Nat.lt_of_lt_of_le hl0 hb5.size; have ha1 := Nat.lt_of_lt_of_le hl1 hb5.size;  clear ho5 hb5)
        | (go_simp; go_at_call 106; (with_reducible refine (hofB.out _).mono ?_); rintro e w6 ⟨v6, rfl, ho6, hb6⟩; have H6 : Hid (NumRet _ C (.returned v6) w6) := ⟨v6, rfl, ho6, hb6⟩; have b0 := (hb6.cell (p := ⟨w.heap.size, 0, none⟩) ha0).trans a0; have b1 := (hb6.cell (p := ⟨w.heap.size, 1, none⟩) ha0).trans a1; have b2 := (hb6.cell (p := ⟨w.heap.size + 1, 0, none⟩) ha1).trans a2; have b3 := (hb6.cell (p := ⟨w.heap.size + 1, 1, none⟩) ha1).trans a3; have hb_0 := Nat.lt_of_lt_of_le ha0 hb6.size; have hb_1 := Nat.lt_of_lt_of_le ha1 hb6.size;  clear ho6 hb6)
        | (go_simp; go_at_call 120; (with_reducible refine (HSUM.out _ _ _ _ (numR_below H5.out.numR H6.out.bel) H6.out.numR rfl).mono ?_); rintro e w7 ⟨⟨v7, rfl, h7⟩, hb7⟩; have H7 : Hid (World.numR w7 v7 M) := h7; have HB7 := Lib.hid hb7; have d0 := (hb7.cell (p := ⟨w.heap.size, 0, none⟩) hb_0).trans b0; have d1 := (hb7.cell (p := ⟨w.heap.size, 1, none⟩) hb_0).trans b1; have d2 := (hb7.cell (p := ⟨w.heap.size + 1, 0, none⟩) hb_1).trans b2; have d3 := (hb7.cell (p := ⟨w.heap.size + 1, 1, none⟩) hb_1).trans b3; have hd_0 := Nat.lt_of_lt_of_le hb_0 hb7.size; have hd_1 := Nat.lt_of_lt_of_le hb_1 hb7.size;  clear h7 hb7)
        | (go_simp; go_at_call 102; (with_reducible refine (HFF.out _ _ _ H7.out rfl).mono ?_); rintro e w8 ⟨rfl, hb8⟩; have q0 := (hb8.cell (p := ⟨w.heap.size, 0, none⟩) hd_0).trans d0; have q1 := (hb8.cell (p := ⟨w.heap.size, 1, none⟩) hd_0).trans d1; have q2 := (hb8.cell (p := ⟨w.heap.size + 1, 0, none⟩) hd_1).trans d2; have q3 := (hb8.cell (p := ⟨w.heap.size + 1, 1, none⟩) hd_1).trans d3; have hq_0 := Nat.lt_of_lt_of_le hd_0 hb8.size; have hq_1 := Nat.lt_of_lt_of_le hd_1 hb8.size;  have HB8 := Lib.hid (H5.out.belD.trans (((H6.out.bel.trans (HB7.out.mono H6.out.bel.size)).trans (hb8.mono (Nat.le_trans H6.out.bel.size HB7.out.size))).mono H5.out.belD.size)); have K28 := (HB8.out.block _ hl2).trans HK2.out; have HK28 := Lib.hid K28; obtain ⟨e28, e29, f28⟩ := wide_cells K28; clear hb8 K28))
    all_goals
      go_wp2
      have m2 := wide_set HK28.out fb ft
      have hb9 := below_set2 (p := w.heap.size + 1 + 1) (HBw1.out.trans (HB8.out.mono HBw1.out.size)) (by omega) fb ft
      obtain ⟨d20, d21, -⟩ := wide_cells m2
      clear m2
      generalize (w8.setCell ⟨w.heap.size + 1 + 1, 0, none⟩ (.bool fb)).setCell ⟨w.heap.size + 1 + 1, 1, none⟩ (.string ft) = W9 at d20 d21 hb9 ⊢
      rw [HP.out]
      exact bodyPost_ret (v := .tuple #[.agg #[.bool fb, .string ft], .int .i64 E]) (by simp [results, Try.results108, go_sem, d20, d21]) rfl ⟨by rw [HRES.out], hb9⟩
end Go.Proofs.Ytkjlfjnncdkmlaa

/- Wide integers: helpers and walks, in one text (XR6 XR7 XR8 XR9). -/
/- The reference's numbers with signs: the form of a number. -/
namespace Go.Proofs.Ytkjlfjnncdkmlaa
set_option linter.all false
open Go.RowKit Go.Shelf Go.WideNum
theorem words_cons {B : Nat} (hB : 1 < B) (x : Nat) (h : x ≠ 0) : words B x = x % B :: words B (x / B) := by
  obtain ⟨f, rfl⟩ : ∃ f, x = f + 1 := ⟨x - 1, by omega⟩
  show wordsOf B (f + 1) (f + 1) = _
  rw [wordsOf, if_neg h]
  congr 1
  have hv : valW B (words B ((f + 1) / B)) = (f + 1) / B := val_words hB _ _ (Nat.le_refl _)
  have hd : (f + 1) / B ≤ f := by have := Nat.div_lt_self (show 0 < f + 1 by omega) hB; omega
  have := words_val hB (words B ((f + 1) / B)) (words_lt (by omega) _ _) (words_trimmed hB _ _ (Nat.le_refl _)) f (by rw [hv]; exact hd)
  rw [hv] at this
  exact this
/-- The bytes above the word k, the highest first. -/
def bytesH (n k : Nat) : List Nat := (words 256 (n / 65536 ^ k)).reverse
theorem bytesH_two (n k : Nat) (h : n / 65536 ^ (k + 1) ≠ 0 ∨ 256 ≤ dig 65536 n k) : bytesH n k = bytesH n (k + 1) ++ [dig 65536 n k / 256] ++ [dig 65536 n k % 256] := by
  unfold bytesH
  have e := div_pow_succ 65536 n k
  have hd := hw_dig n k
  generalize n / 65536 ^ (k + 1) = m at *
  generalize dig 65536 n k = d at *
  rw [e, words_cons (by omega) _ (by omega), words_cons (by omega) _ (by omega)]
  rw [show (d + 65536 * m) % 256 = d % 256 by omega, show (d + 65536 * m) / 256 % 256 = d / 256 by omega, show (d + 65536 * m) / 256 / 256 = m by omega]
  simp
theorem bytesH_one (n k : Nat) (h : n / 65536 ^ (k + 1) = 0) (h2 : dig 65536 n k < 256) (h0 : dig 65536 n k ≠ 0) : bytesH n k = bytesH n (k + 1) ++ [dig 65536 n k % 256] := by
  unfold bytesH
  have e := div_pow_succ 65536 n k
  rw [h] at e ⊢
  generalize dig 65536 n k = d at *
  rw [e, Nat.mul_zero, Nat.add_zero, words_cons (by omega) _ h0, Nat.div_eq_of_lt h2]
  rfl
theorem bytesH_nil (n k : Nat) : (bytesH n k).length = 0 ↔ n / 65536 ^ k = 0 := by
  unfold bytesH
  rw [List.length_reverse]
  exact words_len0 (by omega) _
theorem bytesH_top (n : Nat) : bytesH n (hw n).length = [] := by
  unfold bytesH
  rw [Nat.div_eq_of_lt (hw_vlt n)]; rfl
theorem bytesH_zero (n : Nat) : bytesH n 0 = (words 256 n).reverse := by simp [bytesH]
theorem bytesH_lt (n k : Nat) : ∀ x ∈ bytesH n k, x < 256 := fun x hx => words_lt (by omega) _ _ x (List.mem_reverse.1 hx)
theorem bytesH_len (n k L : Nat) (h : n < 65536 ^ L) : (bytesH n k).length ≤ 2 * L := by
  unfold bytesH
  rw [List.length_reverse]
  exact words_length (by omega) _ _ (by rw [← pow2]; exact Nat.lt_of_le_of_lt (Nat.div_le_self _ _) h)
set_option maxRecDepth 100000 in
theorem conv_nil (c : Nat) (hc : c = 0) (W : World) : (convert 108 9 (.slice none 0 c)).run Try.prog W = .ok (.string ⟨#[]⟩) W := by
  subst hc; kernel_rfl
set_option maxRecDepth 100000 in
/-- What out makes of the bytes. -/
theorem bytes_string {W : World} {base n m c : Nat} {a : Option Addr} (h : W.owns base 5 1 (.slice a m c) m ((bytesH n 0).map u8V)) :
    (convert 108 9 (.slice a m c)).run Try.prog W = .ok (.string (magB n)) W := by
  have e : (bytesH n 0).map UInt8.ofNat = magL n := by rw [bytesH_zero, List.map_reverse]; rfl
  unfold magB
  rw [← e]
  rcases h.2 with ⟨e1, e2⟩ | ⟨g, cap, cur, fz, e1, _⟩
  · injection e1 with e3 e4 e5
    subst e3 e4 e5
    have hl := h.1
    simp only [List.length_map, Nat.zero_mul] at hl
    rw [List.eq_nil_of_length_eq_zero hl]
    exact conv_nil 0 rfl W
  · injection e1 with e3 e4 e5
    subst e3 e5
    exact own_string h (bytesH_lt n 0) 9 (by kernel_rfl)
set_option maxRecDepth 100000 in
set_option maxHeartbeats 8000000 in
theorem hout_any (s : Bool) (n L : Nat) (hn : n < 65536 ^ L) (hL : L ≤ 10000) (v : Value) (w : World) (hv : World.rawH w v n L) :
    Calls Try.prog 53 #[.agg #[.bool s, v]] w (FormRet w s n) := by
  obtain ⟨a, c, hva, -, -, -⟩ := rawH_words hv
  subst hva
  have HV : Hid (World.rawH w (.slice a L c) n L) := hv
  clear hv
  obtain ⟨W0, hW0⟩ : ∃ W0, W0 = (w.alloc (.cells #[.bool s, .slice a L c] 77)).alloc (.cells #[.bool false, .string ⟨#[]⟩] 42) := ⟨_, rfl⟩
  have g0 : W0.heap[w.heap.size]? = some (.cells #[.bool s, .slice a L c] 77) := by rw [hW0, Below.heap_alloc _ _ _ (by simp)]; exact heap_alloc_new w _
  have g1 : W0.heap[w.heap.size + 1]? = some (.cells #[.bool false, .string ⟨#[]⟩] 42) := by rw [hW0]; exact alloc_last _ _ (by simp)
  have hb0 : Below w.heap.size w W0 := by rw [hW0]; exact (((Below.refl _ w).alloc (Nat.le_refl _) _).alloc (by simp) _)
  have HB0 := Lib.hid hb0
  have HG0 := Lib.hid g0
  have HG1 := Lib.hid g1
  obtain ⟨c00, c01, f00, f01⟩ := num_cells g0
  have HW0 := Lib.hid hW0
  obtain ⟨S, hS⟩ : ∃ S, S = (s && decide (n ≠ 0)) := ⟨_, rfl⟩
  have htr := fun W => fun h => htrim_any s n L hn hL (.slice a L c) W h
  rw [← hS] at htr
  have HTR := Lib.hid htr
  have HBL : Hid (∀ k, (bytesH n k).length ≤ 20000) := fun k => Nat.le_trans (bytesH_len n k L hn) (by omega)
  have HO : Hid (outB s n = (if n < lim then .agg #[.bool S, .string (magB n)] else .agg #[.bool false, .string ⟨#[]⟩]) ∧ outE n = if n < lim then 0 else 7) := by
    refine ⟨?_, rfl⟩
    unfold outB emptyW wideV
    rw [hS]
  have HML : Hid ((hw n).length ≤ 10000) := Nat.le_trans (hw_len_le hn) hL
  obtain ⟨HPOST, hpost⟩ : ∃ R, R = FormRet w s n := ⟨_, rfl⟩
  rw [← hpost]
  have HP := Lib.hid hpost
  clear hb0 g0 g1 hW0 hn hS htr hpost
  go_enter Try.func53, Try.ntmps53
  go_upto_region 1 with (fail)
  rw [← HW0.out]
  go_wp2_with fail
  (with_reducible refine (HTR.out _ (rawH_below HV.out HB0.out)).mono ?_)
  rintro e w5 ⟨v5, rfl, hn5, hb5⟩
  obtain ⟨a5, M, c5, hM, rfl, hc5, hm5, hs5⟩ := numH_words hn5
  have hg5 := (hb5.block (w.heap.size) (lt_of_heap HG0.out)).trans HG0.out
  have hg51 := (hb5.block (w.heap.size + 1) (lt_of_heap HG1.out)).trans HG1.out
  have HB5 := Lib.hid (HB0.out.trans (hb5.mono HB0.out.size))
  have HN5 := Lib.hid hn5
  have HG5 := Lib.hid hg5
  have HG51 := Lib.hid hg51
  have HM := Lib.hid hM
  have hM1 : M ≤ 10000 := by rw [hM]; exact HML.out
  have hML : (M : Int) ≤ 10000 := by omega
  clear c00 c01 f00 f01
  obtain ⟨d0, d1, fz0, fz1⟩ := num_cells hg5
  clear hn5 hb5 hg5 hg51 hs5 hM hm5
  go_wp2_with fail
  clear d0 d1 fz0 fz1
  have m2 := num_set HG5.out (.bool S) (.slice a5 M c5)
  have hb2 : Below w.heap.size w ((w5.setCell ⟨w.heap.size, 0, none⟩ (.bool S)).setCell ⟨w.heap.size, 1, none⟩ (.slice a5 M c5)) := (HB5.out.setCell (by simp) _).setCell (by simp) _
  have hn2 := numH_set HN5.out HG5.out (.bool S) (.slice a5 M c5)
  have hr2 := (two_other (W := w5) (p := w.heap.size) (.bool S) (.slice a5 M c5) (w.heap.size + 1) (by omega)).trans HG51.out
  generalize (w5.setCell ⟨w.heap.size, 0, none⟩ (.bool S)).setCell ⟨w.heap.size, 1, none⟩ (.slice a5 M c5) = W2 at m2 hb2 hn2 hr2 ⊢
  obtain ⟨a', M', c', hM', e', hc', hm', hs'⟩ := numH_words hn2
  injection e' with e1 e2 e3
  subst e1 e2 e3
  have HS2 := Lib.hid hs'
  have HM2 := Lib.hid m2
  have HB2 := Lib.hid hb2
  have HR2 := Lib.hid hr2
  clear m2 hb2 hn2 hr2 hM' hs' hm'
  go_loopw [4, 5] (fun bv iv wr => ∃ (k m : Nat) (xa : Option Addr) (xc : Nat), k ≤ M ∧ iv = .int .i64 ((k : Int) - 1) ∧ bv = .slice xa m xc ∧ Hid (m = (bytesH n k).length) ∧ Hid (wr.owns W2.heap.size 5 1 (.slice xa m xc) m ((bytesH n k).map u8V)) ∧ Hid (Below W2.heap.size W2 wr)) (fun _ iv _ => (intOf iv + 1).toNat)
  case atStart => exact ⟨M, 0, none, 0, Nat.le_refl _, rfl, rfl, by show _ = _; rw [HM.out, bytesH_top]; rfl, by show World.owns _ _ _ _ _ _ _; rw [HM.out, bytesH_top]; exact owns_nil _ _ _, Below.refl _ W2⟩
  case round =>
    obtain ⟨k, m, xa, xc, hk, rfl, rfl, hml, hO, hB⟩ := hrel
    have hz := hB.out.size
    have hgr := (hB.out.block _ (lt_of_heap HM2.out)).trans HM2.out
    obtain ⟨c0, c1, f0, f1⟩ := num_cells hgr
    clear hgr
    cases k with
    | zero =>
      have h0 : ¬ (0 : Int) ≤ ((0 : Nat) : Int) - 1 := by omega
      have hcv := bytes_string hO.out
      have hg1 := (hB.out.block _ (lt_of_heap HR2.out)).trans HR2.out
      obtain ⟨d0, d1, fz0, fz1⟩ := num_cells hg1
      have HG1 := Lib.hid hg1
      have hN : m = (words 256 n).length := by rw [hml.out, bytesH_zero, List.length_reverse]
      have hli := lim_iff n m hN
      have hbw := HB2.out.trans (hB.out.mono HB2.out.size)
      have HBW := Lib.hid hbw
      obtain ⟨mb, hmb⟩ : ∃ mb, mb = magB n := ⟨_, rfl⟩
      rw [← hmb] at hcv HO
      clear hg1 hN hbw hmb
      by_cases hlt : n < lim
      · have hm256 : ¬ (256 : Int) < (m : Int) := by have := hli.1 hlt; omega
        have HO1 := Lib.hid (show outB s n = .agg #[.bool S, .string mb] by rw [HO.out.1, if_pos hlt])
        have HO2 := Lib.hid (show outE n = 0 by rw [HO.out.2, if_pos hlt])
        clear hli hlt
        go_wp2
        have m2 := num_set HG1.out (.bool S) (.string mb)
        have hb9 : Below w.heap.size w ((wr.setCell ⟨w.heap.size + 1, 0, none⟩ (.bool S)).setCell ⟨w.heap.size + 1, 1, none⟩ (.string mb)) := (HBW.out.setCell (by simp) _).setCell (by simp) _
        obtain ⟨d20, d21, -, -⟩ := num_cells m2
        clear m2 d0 d1 fz0 fz1
        generalize (wr.setCell ⟨w.heap.size + 1, 0, none⟩ (.bool S)).setCell ⟨w.heap.size + 1, 1, none⟩ (.string mb) = W9 at d20 d21 hb9 ⊢
        rw [HP.out]
        exact bodyPost_ret (v := .tuple #[.agg #[.bool S, .string mb], .int .i64 0]) (by simp [results, Try.results53, go_sem, d20, d21]) rfl ⟨by rw [HO1.out, HO2.out], hb9⟩
      · have hm256 : (256 : Int) < (m : Int) := by
          rcases Nat.lt_or_ge 256 m with h | h
          · omega
          · exact absurd (hli.2 h) hlt
        have HO1 := Lib.hid (show outB s n = .agg #[.bool false, .string ⟨#[]⟩] by rw [HO.out.1, if_neg hlt])
        have HO2 := Lib.hid (show outE n = 7 by rw [HO.out.2, if_neg hlt])
        clear hli hlt
        go_wp2
        have m2 := num_set HG1.out (.bool false) (.string ⟨#[]⟩)
        have hb9 : Below w.heap.size w ((wr.setCell ⟨w.heap.size + 1, 0, none⟩ (.bool false)).setCell ⟨w.heap.size + 1, 1, none⟩ (.string ⟨#[]⟩)) := (HBW.out.setCell (by simp) _).setCell (by simp) _
        obtain ⟨d20, d21, -, -⟩ := num_cells m2
        clear m2 d0 d1 fz0 fz1
        generalize (wr.setCell ⟨w.heap.size + 1, 0, none⟩ (.bool false)).setCell ⟨w.heap.size + 1, 1, none⟩ (.string ⟨#[]⟩) = W9 at d20 d21 hb9 ⊢
        rw [HP.out]
        exact bodyPost_ret (v := .tuple #[.agg #[.bool false, .string ⟨#[]⟩], .int .i64 7]) (by simp [results, Try.results53, go_sem, d20, d21]) rfl ⟨by rw [HO1.out, HO2.out], hb9⟩
    | succ j =>
      rw [show ((j + 1 : Nat) : Int) - 1 = (j : Int) by omega]
      obtain ⟨b, off, rfl, hbl, hx0⟩ := HS2.out j (by omega)
      have hx := (hB.out.cell (p := ⟨b, off + j, none⟩) hbl).trans hx0
      have hdl := hw_dig n j
      have hnil := bytesH_nil n (j + 1)
      rw [← hml.out] at hnil
      have hm20 := HBL.out (j + 1)
      rw [← hml.out] at hm20
      have h2 := bytesH_two n j
      have h1 := bytesH_one n j
      have htop : j + 1 = M → dig 65536 n j ≠ 0 := fun h => hw_top (by rw [← HM.out]; exact h.symm)
      have hnz : n / 65536 ^ (j + 1) = 0 → dig 65536 n j ≠ 0 := fun h => by
        refine htop ?_
        have h3 := hw_len_le (n := n) (k := j + 1) (by
          rcases Nat.lt_or_ge n (65536 ^ (j + 1)) with h4 | h4
          · exact h4
          · have := Nat.div_pos h4 (Nat.pow_pos (show 0 < 65536 by omega)); omega)
        rw [← HM.out] at h3
        omega
      obtain ⟨d, ed⟩ : ∃ x, x = dig 65536 n j := ⟨_, rfl⟩
      rw [← ed] at hx hdl h2 h1 hnz
      obtain ⟨p, ep⟩ : ∃ x, x = d / 256 := ⟨_, rfl⟩
      obtain ⟨q, eq⟩ : ∃ x, x = d % 256 := ⟨_, rfl⟩
      rw [← ep, ← eq] at h2
      rw [← eq] at h1
      have t2 : (d : Int) / 256 = (p : Int) := by omega
      have t3 : (p : Int) % 256 = (p : Int) := by omega
      have t4 : (d : Int) % 256 = (q : Int) := by omega
      have t5 : (q : Int) % 256 = (q : Int) := by omega
      have hwl := lt_of_heap HM2.out
      have hjM : (j : Int) < (M : Int) := by omega
      have hj0 : (0 : Int) ≤ (j : Int) := by omega
      clear hx0 htop ep eq
      by_cases hd : 256 ≤ d
      · have HST := Lib.hid (h2 (.inr hd))
        have u1 : (256 : Int) ≤ (d : Int) := by omega
        clear h2 h1 hnil hnz ed
        go_wp2_with (first | (at_builtin; refine app_u8 wr rfl (.tmp 27) (.tmp 35) rfl W2.heap.size (.slice xa m xc) m _ rfl hO.out (p : Int) wr.heap.size rfl rfl (by omega) hz ?_; intro v6 w6 hown6 hg6 hz6; have HO6 := Lib.hid hown6; obtain ⟨g6, q6, rfl⟩ := hown6.succ; have hb6 := below_grown hO.out hg6 W2.heap.size (Nat.le_refl _) hz; have HB6 := Lib.hid (hB.out.trans hb6); have hz7 := Nat.le_trans hz (Nat.le_of_lt hz6); have k0 := (hb6.cell (p := ⟨w.heap.size, 0, none⟩) hwl).trans c0; have k1 := (hb6.cell (p := ⟨w.heap.size, 1, none⟩) hwl).trans c1; have kx := (hb6.cell (p := ⟨b, off + j, none⟩) hbl).trans hx; clear hown6 hg6 hb6 hz6) | (at_builtin; refine app_u8 w6 rfl (.tmp 37) (.tmp 45) rfl W2.heap.size (.slice (some ⟨g6, 0, none⟩) (m + 1) q6) (m + 1) _ rfl HO6.out (q : Int) w6.heap.size rfl rfl (by omega) hz7 ?_; intro v8 w8 hown8 hg8 hz8; have HO8 := Lib.hid hown8; obtain ⟨g8, q8, rfl⟩ := hown8.succ; have HB8 := Lib.hid (HB6.out.trans (below_grown HO6.out hg8 W2.heap.size (Nat.le_refl _) hz7)); clear hown8 hg8 hz8))
        go_roundw
        case rel =>
          refine ⟨j, m + 1 + 1, some ⟨g8, 0, none⟩, q8, by omega, by first | go_num | rfl, rfl, ?_, ?_, HB8.out⟩
          · show _ = _; rw [HST.out, hml.out]; simp
          · show World.owns _ _ _ _ _ _ _
            rw [HST.out, List.map_append, List.map_append]
            exact HO8.out
        case measure => first | (simp [intOf]; done) | (simp [intOf]; omega)
      · have u1 : ¬ (256 : Int) ≤ (d : Int) := by omega
        by_cases hm0 : n / 65536 ^ (j + 1) = 0
        · have HST := Lib.hid (h1 hm0 (by omega) (hnz hm0))
          have u2 : ¬ (0 : Int) < (m : Int) := by have := hnil.2 hm0; omega
          clear h2 h1 hnil hnz hm0 ed
          go_wp2_with (at_builtin; refine app_u8 wr rfl (.tmp 37) (.tmp 45) rfl W2.heap.size (.slice xa m xc) m _ rfl hO.out (q : Int) wr.heap.size rfl rfl (by omega) hz ?_; intro v8 w8 hown8 hg8 hz8; have HO8 := Lib.hid hown8; obtain ⟨g8, q8, rfl⟩ := hown8.succ; have HB8 := Lib.hid (hB.out.trans (below_grown hO.out hg8 W2.heap.size (Nat.le_refl _) hz)); clear hown8 hg8 hz8)
          go_roundw
          case rel =>
            refine ⟨j, m + 1, some ⟨g8, 0, none⟩, q8, by omega, by first | go_num | rfl, rfl, ?_, ?_, HB8.out⟩
            · show _ = _; rw [HST.out, hml.out]; simp
            · show World.owns _ _ _ _ _ _ _
              rw [HST.out, List.map_append]
              exact HO8.out
          case measure => first | (simp [intOf]; done) | (simp [intOf]; omega)
        · have HST := Lib.hid (h2 (.inl hm0))
          have u2 : (0 : Int) < (m : Int) := by
            rcases Nat.eq_zero_or_pos m with h | h
            · exact absurd (hnil.1 h) hm0
            · omega
          clear h2 h1 hnil hnz hm0 ed
          go_wp2_with (first | (at_builtin; refine app_u8 wr rfl (.tmp 27) (.tmp 35) rfl W2.heap.size (.slice xa m xc) m _ rfl hO.out (p : Int) wr.heap.size rfl rfl (by omega) hz ?_; intro v6 w6 hown6 hg6 hz6; have HO6 := Lib.hid hown6; obtain ⟨g6, q6, rfl⟩ := hown6.succ; have hb6 := below_grown hO.out hg6 W2.heap.size (Nat.le_refl _) hz; have HB6 := Lib.hid (hB.out.trans hb6); have hz7 := Nat.le_trans hz (Nat.le_of_lt hz6); have k0 := (hb6.cell (p := ⟨w.heap.size, 0, none⟩) hwl).trans c0; have k1 := (hb6.cell (p := ⟨w.heap.size, 1, none⟩) hwl).trans c1; have kx := (hb6.cell (p := ⟨b, off + j, none⟩) hbl).trans hx; clear hown6 hg6 hb6 hz6) | (at_builtin; refine app_u8 w6 rfl (.tmp 37) (.tmp 45) rfl W2.heap.size (.slice (some ⟨g6, 0, none⟩) (m + 1) q6) (m + 1) _ rfl HO6.out (q : Int) w6.heap.size rfl rfl (by omega) hz7 ?_; intro v8 w8 hown8 hg8 hz8; have HO8 := Lib.hid hown8; obtain ⟨g8, q8, rfl⟩ := hown8.succ; have HB8 := Lib.hid (HB6.out.trans (below_grown HO6.out hg8 W2.heap.size (Nat.le_refl _) hz7)); clear hown8 hg8 hz8))
          go_roundw
          case rel =>
            refine ⟨j, m + 1 + 1, some ⟨g8, 0, none⟩, q8, by omega, by first | go_num | rfl, rfl, ?_, ?_, HB8.out⟩
            · show _ = _; rw [HST.out, hml.out]; simp
            · show World.owns _ _ _ _ _ _ _
              rw [HST.out, List.map_append, List.map_append]
              exact HO8.out
          case measure => first | (simp [intOf]; done) | (simp [intOf]; omega)
end Go.Proofs.Ytkjlfjnncdkmlaa

/- The reference's numbers with signs: the sum. -/
namespace Go.Proofs.Ytkjlfjnncdkmlaa
set_option linter.all false
open Go.RowKit Go.Shelf Go.WideNum
theorem hw_len_add {A C : Nat} (ha : (hw A).length ≤ 4000) (hc : (hw C).length ≤ 4000) : (hw (A + C)).length ≤ 4001 := by
  obtain ⟨K, hK⟩ : ∃ K, K = 4000 := ⟨_, rfl⟩
  rw [← hK] at ha hc
  have e1 := Nat.lt_of_lt_of_le (hw_vlt A) (Nat.pow_le_pow_right (show 0 < 65536 by omega) ha)
  have e2 := Nat.lt_of_lt_of_le (hw_vlt C) (Nat.pow_le_pow_right (show 0 < 65536 by omega) hc)
  have h3 : A + C < 65536 ^ (K + 1) := by
    rw [Nat.pow_succ]
    generalize 65536 ^ K = P at *
    omega
  have := hw_len_le h3
  omega
theorem hw_lt_sub {A C : Nat} : A - C < 65536 ^ (hw A).length := Nat.lt_of_le_of_lt (Nat.sub_le _ _) (hw_vlt A)
theorem SRet.back {w W : World} {s : Bool} {n : Nat} {e : Ending} {w' : World} (h : SRet W s n e w') (hb : Below w.heap.size w W) : SRet w s n e w' := by
  obtain ⟨v, h1, h2, h3⟩ := h
  exact ⟨v, h1, h2, hb.trans (h3.mono hb.size)⟩
theorem lt_of_cell {w : World} {b o : Nat} {v : Value} (h : w.cell? ⟨b, o, none⟩ = some v) : b < w.heap.size := by
  rcases Nat.lt_or_ge b w.heap.size with h1 | h1
  · exact h1
  · rw [World.cell?, Array.getElem?_eq_none h1] at h; cases h
set_option maxRecDepth 100000 in
set_option maxHeartbeats 8000000 in
theorem hadd_any (an : Bool) (A : Nat) (va : Value) (bn : Bool) (C : Nat) (vb : Value) (w : World) (hA : World.numH w va A) (hC : World.numH w vb C) (hla : (hw A).length ≤ 4000) (hlc : (hw C).length ≤ 4000) :
    Calls Try.prog 76 #[.agg #[.bool an, va], .agg #[.bool bn, vb]] w (SRet w (sumS A an C bn && decide (sumN A an C bn ≠ 0)) (sumN A an C bn)) := by
  have HA : Hid (World.numH w va A) := hA
  have HC : Hid (World.numH w vb C) := hC
  obtain ⟨aa, p, ca, -, rfl, -, -, -⟩ := numH_words hA
  obtain ⟨ab, q, cb, -, rfl, -, -, -⟩ := numH_words hC
  clear hA hC
  obtain ⟨W0, hW0⟩ : ∃ W0, W0 = ((w.alloc (.cells #[.bool an, .slice aa p ca] 77)).alloc (.cells #[.bool bn, .slice ab q cb] 77)).alloc (.cells #[.bool false, .slice none 0 0] 77) := ⟨_, rfl⟩
  have g0 : W0.heap[w.heap.size]? = some (.cells #[.bool an, .slice aa p ca] 77) := by rw [hW0, Below.heap_alloc _ _ _ (by simp; omega), Below.heap_alloc _ _ _ (by simp)]; exact heap_alloc_new w _
  have g1 : W0.heap[w.heap.size + 1]? = some (.cells #[.bool bn, .slice ab q cb] 77) := by rw [hW0, Below.heap_alloc _ _ _ (by simp)]; exact alloc_last _ _ (by simp)
  have g2 : W0.heap[w.heap.size + 1 + 1]? = some (.cells #[.bool false, .slice none 0 0] 77) := by rw [hW0]; exact alloc_last _ _ (by simp)
  have hb0 : Below w.heap.size w W0 := by rw [hW0]; exact ((((Below.refl _ w).alloc (Nat.le_refl _) _).alloc (by simp) _).alloc (by simp; omega) _)
  have HB0 := Lib.hid hb0
  have HG0 := Lib.hid g0
  have HG1 := Lib.hid g1
  have HG2 := Lib.hid g2
  obtain ⟨c00, c01, f00, f01⟩ := num_cells g0
  obtain ⟨c10, c11, f10, f11⟩ := num_cells g1
  have HW0 := Lib.hid hW0
  have HNA := Lib.hid (numH_below HA.out hb0)
  have HNC := Lib.hid (numH_below HC.out hb0)
  obtain ⟨S, hS⟩ : ∃ S, S = (sumS A an C bn && decide (sumN A an C bn ≠ 0)) := ⟨_, rfl⟩
  obtain ⟨N, hN⟩ : ∃ N, N = sumN A an C bn := ⟨_, rfl⟩
  rw [← hN] at hS ⊢
  rw [← hS]
  obtain ⟨HPOST, hpost⟩ : ∃ R, R = SRet w S N := ⟨_, rfl⟩
  rw [← hpost]
  have HP := Lib.hid hpost
  clear hb0 g0 g1 g2 hW0 hpost
  have hz0 : w.heap.size < W0.heap.size := lt_of_heap HG0.out
  have hz1 : w.heap.size + 1 < W0.heap.size := lt_of_heap HG1.out
  have hz2 : w.heap.size + 1 + 1 < W0.heap.size := lt_of_heap HG2.out
  by_cases hab : an = bn
  · subst hab
    have e1 : sumN A an C an = A + C := by unfold sumN; simp
    have e2 : sumS A an C an = an := by unfold sumS; simp
    rw [e1] at hN
    rw [e2] at hS
    subst hN
    have HCA := Lib.hid (hplus_any A C _ _ W0.drew HNA.out.drew HNC.out.drew hla hlc)
    have HTR : Hid (∀ v W, World.rawH W v (A + C) (hw (A + C)).length → Calls Try.prog 92 #[.agg #[.bool an, v]] W (SRet W S (A + C))) := fun v W h => by rw [hS]; exact htrim_any an (A + C) _ (hw_vlt _) (Nat.le_trans (hw_len_add hla hlc) (by omega)) v W h
    have HRAW : Hid (∀ v W, World.numH W v (A + C) → World.rawH W v (A + C) (hw (A + C)).length) := fun v W h => numH_raw h
    have hnn : (an == an) = true := by simp
    have HBW := HB0
    have HGR := HG2
    clear hS e1 e2
    go_enter Try.func76, Try.ntmps76
    go_upto_region 1 with (fail)
    rw [← HW0.out]
    go_wp2_with fail
    refine wp_region_line (fun w' => w'.cell? ⟨w.heap.size, 0, none⟩ = some (.bool an) ∧ w'.cell? ⟨w.heap.size, 1, none⟩ = some (.slice aa p ca) ∧ w'.cell? ⟨w.heap.size + 1, 1, none⟩ = some (.slice ab q cb)) 9 (by kernel_rfl) ⟨c00, c01, c11⟩ (fun hHeld => ?_)
    refine wpAnyT_take 0 (v := ?_) (by kernel_rfl) rfl (by kernel_rfl) (by decide) rfl (by kernel_rfl) (by kernel_rfl) (fun _ _ _ h => h) (Or.inl ⟨by rfl, ?_⟩) (by assumption) ?_
    rotate_left
    · (intro wq hSq; (try dsimp only at hSq); go_simp; try with_reducible rfl)
    try simp only [Act.put, List.setIfInBounds_toArray, List.set_cons_zero, List.set_cons_succ]
    refine wpAnyT_take 1 (v := ?_) (by kernel_rfl) rfl (by kernel_rfl) (by decide) rfl (by kernel_rfl) (by kernel_rfl) (fun _ _ _ h => h) (Or.inl ⟨by rfl, ?_⟩) (by assumption) ?_
    rotate_left
    · (intro wq hSq; (try dsimp only at hSq); go_simp; try with_reducible rfl)
    try simp only [Act.put, List.setIfInBounds_toArray, List.set_cons_zero, List.set_cons_succ]
    refine wpAnyT_take 2 (v := ?_) (by kernel_rfl) rfl (by kernel_rfl) (by decide) rfl (by kernel_rfl) (by kernel_rfl) (fun _ _ _ h => h) (Or.inl ⟨by rfl, ?_⟩) (by assumption) ?_
    rotate_left
    · (intro wq hSq; (try dsimp only at hSq); go_simp; try with_reducible rfl)
    try simp only [Act.put, List.setIfInBounds_toArray, List.set_cons_zero, List.set_cons_succ]
    refine wpAnyT_take 3 (v := ?_) (by kernel_rfl) rfl (by kernel_rfl) (by decide) rfl (by kernel_rfl) (by kernel_rfl) (fun _ _ _ h => h) (Or.inl ⟨by rfl, ?_⟩) (by assumption) ?_
    rotate_left
    · (intro wq hSq; (try dsimp only at hSq); go_simp; try with_reducible rfl)
    try simp only [Act.put, List.setIfInBounds_toArray, List.set_cons_zero, List.set_cons_succ]
    refine wpAnyT_take 4 (v := ?_) (by kernel_rfl) rfl (by kernel_rfl) (by decide) rfl (by kernel_rfl) (by kernel_rfl) (fun _ _ _ h => h) (Or.inl ⟨by rfl, ?_⟩) (by assumption) ?_
    rotate_left
    · (intro wq hSq; (try dsimp only at hSq); go_simp; try with_reducible rfl)
    try simp only [Act.put, List.setIfInBounds_toArray, List.set_cons_zero, List.set_cons_succ]
    refine wpAnyT_take 5 (v := ?_) (by kernel_rfl) rfl (by kernel_rfl) (by decide) rfl (by kernel_rfl) (by kernel_rfl) (fun _ _ _ h => h) (Or.inl ⟨by rfl, ?_⟩) (by assumption) ?_
    rotate_left
    · (intro wq hSq; (try dsimp only at hSq); go_simp; try with_reducible rfl)
    try simp only [Act.put, List.setIfInBounds_toArray, List.set_cons_zero, List.set_cons_succ]
    refine wpAnyT_step 6 (by kernel_rfl) rfl (fun K hK => ?_)
    go_simp
    go_at_call 96
    (with_reducible refine (HCA.out).mono ?_)
    rintro e w5 ⟨v5, rfl, hn5, hb5⟩
    obtain ⟨a5, L5, c5, rfl⟩ : ∃ a5 L5 c5, v5 = .slice a5 L5 c5 := by obtain ⟨x, y, h⟩ := reads_len hn5; exact ⟨x, _, y, h⟩
    have hb05 : Below W0.heap.size W0 w5 := ((Below.refl _ _).drew).trans hb5
    have k0 := (hb05.cell (p := ⟨w.heap.size, 0, none⟩) hz0).trans c00
    have k1 := (hb05.cell (p := ⟨w.heap.size, 1, none⟩) hz0).trans c01
    have k2 := (hb05.cell (p := ⟨w.heap.size + 1, 1, none⟩) hz1).trans c11
    have hg5 := (hb05.block _ hz2).trans HGR.out
    have hbw5 := HBW.out.trans (hb05.mono HBW.out.size)
    have hn5' := HRAW.out _ _ hn5
    refine hK.out _ _ ⟨k0, k1, k2⟩ (fun hHeld2 => ?_)
    have HB5 := Lib.hid hbw5
    have HN5 := Lib.hid hn5'
    have HG5 := Lib.hid hg5
    clear hb5 hn5 hb05 hg5 hbw5 hn5' hK K hHeld
    try simp only [Act.put, List.setIfInBounds_toArray, List.set_cons_zero, List.set_cons_succ]
    refine wpAnyT_take 7 (v := ?_) (by kernel_rfl) rfl (by kernel_rfl) (by decide) rfl (by kernel_rfl) (by kernel_rfl) (fun _ _ _ h => h) (Or.inl ⟨by rfl, ?_⟩) (by assumption) ?_
    rotate_left
    · (intro wq hSq; (try dsimp only at hSq); go_simp; try with_reducible rfl)
    try simp only [Act.put, List.setIfInBounds_toArray, List.set_cons_zero, List.set_cons_succ]
    refine wpAnyT_step 8 (by kernel_rfl) rfl (fun K hK => ?_)
    go_simp
    go_at_call 92
    (with_reducible refine (HTR.out _ _ HN5.out).mono ?_)
    rintro e w6 ⟨v6, rfl, hn6, hb6⟩
    obtain ⟨a6, L6, c6, rfl⟩ : ∃ a5 L5 c5, v6 = .slice a5 L5 c5 := by obtain ⟨x, y, h⟩ := reads_len hn6; exact ⟨x, _, y, h⟩
    have hz5 := HB5.out.size
    have i0 := (hb6.cell (p := ⟨w.heap.size, 0, none⟩) (lt_of_cell k0)).trans k0
    have i1 := (hb6.cell (p := ⟨w.heap.size, 1, none⟩) (lt_of_cell k1)).trans k1
    have i2 := (hb6.cell (p := ⟨w.heap.size + 1, 1, none⟩) (lt_of_cell k2)).trans k2
    have hg6 := (hb6.block _ (lt_of_heap HG5.out)).trans HG5.out
    have hbw6 := HB5.out.trans (hb6.mono HB5.out.size)
    refine hK.out _ _ ⟨i0, i1, i2⟩ (fun hHeld3 => ?_)
    have HB6 := Lib.hid hbw6
    have HN6 := Lib.hid hn6
    have HG6 := Lib.hid hg6
    obtain ⟨d0, d1, fz0, fz1⟩ := num_cells hg6
    clear hb6 hn6 hg6 hbw6 hz5 k0 k1 k2 hK K hHeld2
    try simp only [Act.put, List.setIfInBounds_toArray, List.set_cons_zero, List.set_cons_succ]
    refine wpAnyT_last (by kernel_rfl) (by kernel_rfl) rfl (fun K hK => ?_)
    go_simp
    refine hK.out _ _ ?_
    clear hK K hHeld3
    have m2 := num_set HG6.out (.bool S) (.slice a6 L6 c6)
    have hb9 : Below w.heap.size w ((w6.setCell ⟨w.heap.size + 1 + 1, 0, none⟩ (.bool S)).setCell ⟨w.heap.size + 1 + 1, 1, none⟩ (.slice a6 L6 c6)) := (HB6.out.setCell (by simp; omega) _).setCell (by simp; omega) _
    have hn9 := numH_set HN6.out HG6.out (.bool S) (.slice a6 L6 c6)
    obtain ⟨d20, d21, -, -⟩ := num_cells m2
    clear m2 d0 d1 fz0 fz1 i0 i1 i2
    generalize (w6.setCell ⟨w.heap.size + 1 + 1, 0, none⟩ (.bool S)).setCell ⟨w.heap.size + 1 + 1, 1, none⟩ (.slice a6 L6 c6) = W9 at d20 d21 hb9 hn9 ⊢
    have HB9 := Lib.hid hb9
    have HN9 := Lib.hid hn9
    clear hb9 hn9
    go_wp2
    rw [HP.out]
    exact bodyPost_ret (v := .agg #[.bool S, .slice a6 L6 c6]) (by simp [results, Try.results76, go_sem, d20, d21]) rfl ⟨.slice a6 L6 c6, rfl, HN9.out, HB9.out⟩
  · obtain rfl : bn = !an := by cases an <;> cases bn <;> first | rfl | exact absurd rfl hab
    have hnn : (an == !an) = false := by cases an <;> rfl
    have HOR := Lib.hid (order_num A C _ _ W0 HNA.out HNC.out hla hlc)
    by_cases hlt : A < C
    · have e1 : sumN A an C (!an) = C - A := by unfold sumN; rw [if_neg hab, if_pos hlt]
      have e2 : sumS A an C (!an) = !an := by unfold sumS; rw [if_neg hab, if_pos hlt]
      rw [e1] at hN
      rw [e2] at hS
      obtain ⟨R, hR⟩ : ∃ R, R = cmpN A C := ⟨_, rfl⟩
      rw [← hR] at HOR
      obtain rfl : R = -1 := by rw [hR, cmpN, if_pos hlt]
      subst hN
      have HNT := Lib.hid hnn
      have HMN : Hid (∀ W va vb, World.numH W va C → World.numH W vb A → Calls Try.prog 98 #[va, vb] W (RawRet W (C - A) (hw C).length)) := fun W va vb h1 h2 => hminus_any C A (Nat.le_of_lt hlt) va vb W h1 h2 hlc hla
      have HTR : Hid (∀ v W, World.rawH W v (C - A) (hw C).length → Calls Try.prog 92 #[.agg #[.bool (!an), v]] W (SRet W S (C - A))) := fun v W h => by rw [hS]; exact htrim_any (!an) (C - A) _ hw_lt_sub (Nat.le_trans hlc (by omega)) v W h
      have HRAW : Hid (∀ v W, World.rawH W v (C - A) (hw C).length → World.rawH W v (C - A) (hw C).length) := fun v W h => h
      clear hS e1 e2 hR
      go_enter Try.func76, Try.ntmps76
      go_upto_region 1 with (fail)
      rw [← HW0.out]
      go_wp2_with fail
      (with_reducible refine (HOR.out).mono ?_)
      rintro e Wa ⟨rfl, n1, hw1⟩
      have hbd : Below W0.heap.size W0 Wa := by rw [hw1]; exact below_drewN (Below.refl _ _) n1
      have ga := (hbd.block _ hz0).trans HG0.out
      have gb := (hbd.block _ hz1).trans HG1.out
      have gr := (hbd.block _ hz2).trans HG2.out
      have hna := numH_below HNA.out hbd
      have hnc := numH_below HNC.out hbd
      have hbw := HB0.out.trans (hbd.mono HB0.out.size)
      replace hz0 := Nat.lt_of_lt_of_le hz0 hbd.size
      replace hz1 := Nat.lt_of_lt_of_le hz1 hbd.size
      replace hz2 := Nat.lt_of_lt_of_le hz2 hbd.size
      clear hbd c00 c01 c10 c11 f00 f01 f10 f11 hw1
      have HA1 := Lib.hid ga
      have HA2 := Lib.hid gb
      have HA3 := Lib.hid gr
      have HA4 := Lib.hid hna
      have HA5 := Lib.hid hnc
      have HA6 := Lib.hid hbw
      obtain ⟨c00, c01, f00, f01⟩ := num_cells ga
      obtain ⟨c10, c11, f10, f11⟩ := num_cells gb
      clear ga gb gr hna hnc hbw
      go_wp2_with fail
      have ga := HA1.out
      have gb := HA2.out
      have gr := HA3.out
      have hna := HA4.out
      have hnc := HA5.out
      have hbw := HA6.out
      clear c00 c01 c10 c11 f00 f01 f10 f11
      have ga1 := num_set ga (.bool (!an)) (.slice ab q cb)
      have gb1 := (two_other (W := Wa) (p := w.heap.size) (.bool (!an)) (.slice ab q cb) (w.heap.size + 1) (by omega)).trans gb
      have gr1 := (two_other (W := Wa) (p := w.heap.size) (.bool (!an)) (.slice ab q cb) (w.heap.size + 1 + 1) (by omega)).trans gr
      have hna1 := numH_set hna ga (.bool (!an)) (.slice ab q cb)
      have hnc1 := numH_set hnc ga (.bool (!an)) (.slice ab q cb)
      have hbw1 : Below w.heap.size w ((Wa.setCell ⟨w.heap.size, 0, none⟩ (.bool (!an))).setCell ⟨w.heap.size, 1, none⟩ (.slice ab q cb)) := (hbw.setCell (by simp) _).setCell (by simp) _
      have hs1 : ((Wa.setCell ⟨w.heap.size, 0, none⟩ (.bool (!an))).setCell ⟨w.heap.size, 1, none⟩ (.slice ab q cb)).heap.size = Wa.heap.size := by simp
      clear ga gb gr hna hnc hbw
      generalize (Wa.setCell ⟨w.heap.size, 0, none⟩ (.bool (!an))).setCell ⟨w.heap.size, 1, none⟩ (.slice ab q cb) = Wb at ga1 gb1 gr1 hna1 hnc1 hbw1 hs1 ⊢
      rw [← hs1] at hz0 hz1 hz2
      clear hs1
      have ga := (two_other (W := Wb) (p := w.heap.size + 1) (.bool an) (.slice aa p ca) (w.heap.size) (by omega)).trans ga1
      have gb := num_set gb1 (.bool an) (.slice aa p ca)
      have gr := (two_other (W := Wb) (p := w.heap.size + 1) (.bool an) (.slice aa p ca) (w.heap.size + 1 + 1) (by omega)).trans gr1
      have hna := numH_set hna1 gb1 (.bool an) (.slice aa p ca)
      have hnc := numH_set hnc1 gb1 (.bool an) (.slice aa p ca)
      have hbw : Below w.heap.size w ((Wb.setCell ⟨w.heap.size + 1, 0, none⟩ (.bool an)).setCell ⟨w.heap.size + 1, 1, none⟩ (.slice aa p ca)) := (hbw1.setCell (by simp) _).setCell (by simp) _
      have hs1 : ((Wb.setCell ⟨w.heap.size + 1, 0, none⟩ (.bool an)).setCell ⟨w.heap.size + 1, 1, none⟩ (.slice aa p ca)).heap.size = Wb.heap.size := by simp
      clear ga1 gb1 gr1 hna1 hnc1 hbw1
      generalize (Wb.setCell ⟨w.heap.size + 1, 0, none⟩ (.bool an)).setCell ⟨w.heap.size + 1, 1, none⟩ (.slice aa p ca) = W1 at ga gb gr hna hnc hbw hs1 ⊢
      rw [← hs1] at hz0 hz1 hz2
      obtain ⟨q00, q01, -, -⟩ := num_cells ga
      obtain ⟨-, q11, -, -⟩ := num_cells gb
      have HGR := Lib.hid gr
      have HBW := Lib.hid hbw
      have HCA := Lib.hid (HMN.out W1.drew _ _ hnc.drew hna.drew)
      clear hs1 ga gb gr hna hnc hbw
      refine wp_region_line (fun w' => w'.cell? ⟨w.heap.size, 0, none⟩ = some (.bool (!an)) ∧ w'.cell? ⟨w.heap.size, 1, none⟩ = some (.slice ab q cb) ∧ w'.cell? ⟨w.heap.size + 1, 1, none⟩ = some (.slice aa p ca)) 9 (by kernel_rfl) ⟨q00, q01, q11⟩ (fun hHeld => ?_)
      refine wpAnyT_take 0 (v := ?_) (by kernel_rfl) rfl (by kernel_rfl) (by decide) rfl (by kernel_rfl) (by kernel_rfl) (fun _ _ _ h => h) (Or.inl ⟨by rfl, ?_⟩) (by assumption) ?_
      rotate_left
      · (intro wq hSq; (try dsimp only at hSq); go_simp; try with_reducible rfl)
      try simp only [Act.put, List.setIfInBounds_toArray, List.set_cons_zero, List.set_cons_succ]
      refine wpAnyT_take 1 (v := ?_) (by kernel_rfl) rfl (by kernel_rfl) (by decide) rfl (by kernel_rfl) (by kernel_rfl) (fun _ _ _ h => h) (Or.inl ⟨by rfl, ?_⟩) (by assumption) ?_
      rotate_left
      · (intro wq hSq; (try dsimp only at hSq); go_simp; try with_reducible rfl)
      try simp only [Act.put, List.setIfInBounds_toArray, List.set_cons_zero, List.set_cons_succ]
      refine wpAnyT_take 2 (v := ?_) (by kernel_rfl) rfl (by kernel_rfl) (by decide) rfl (by kernel_rfl) (by kernel_rfl) (fun _ _ _ h => h) (Or.inl ⟨by rfl, ?_⟩) (by assumption) ?_
      rotate_left
      · (intro wq hSq; (try dsimp only at hSq); go_simp; try with_reducible rfl)
      try simp only [Act.put, List.setIfInBounds_toArray, List.set_cons_zero, List.set_cons_succ]
      refine wpAnyT_take 3 (v := ?_) (by kernel_rfl) rfl (by kernel_rfl) (by decide) rfl (by kernel_rfl) (by kernel_rfl) (fun _ _ _ h => h) (Or.inl ⟨by rfl, ?_⟩) (by assumption) ?_
      rotate_left
      · (intro wq hSq; (try dsimp only at hSq); go_simp; try with_reducible rfl)
      try simp only [Act.put, List.setIfInBounds_toArray, List.set_cons_zero, List.set_cons_succ]
      refine wpAnyT_take 4 (v := ?_) (by kernel_rfl) rfl (by kernel_rfl) (by decide) rfl (by kernel_rfl) (by kernel_rfl) (fun _ _ _ h => h) (Or.inl ⟨by rfl, ?_⟩) (by assumption) ?_
      rotate_left
      · (intro wq hSq; (try dsimp only at hSq); go_simp; try with_reducible rfl)
      try simp only [Act.put, List.setIfInBounds_toArray, List.set_cons_zero, List.set_cons_succ]
      refine wpAnyT_take 5 (v := ?_) (by kernel_rfl) rfl (by kernel_rfl) (by decide) rfl (by kernel_rfl) (by kernel_rfl) (fun _ _ _ h => h) (Or.inl ⟨by rfl, ?_⟩) (by assumption) ?_
      rotate_left
      · (intro wq hSq; (try dsimp only at hSq); go_simp; try with_reducible rfl)
      try simp only [Act.put, List.setIfInBounds_toArray, List.set_cons_zero, List.set_cons_succ]
      refine wpAnyT_step 6 (by kernel_rfl) rfl (fun K hK => ?_)
      go_simp
      go_at_call 98
      (with_reducible refine (HCA.out).mono ?_)
      rintro e w5 ⟨v5, rfl, hn5, hb5⟩
      obtain ⟨a5, L5, c5, rfl⟩ : ∃ a5 L5 c5, v5 = .slice a5 L5 c5 := by obtain ⟨x, y, h⟩ := reads_len hn5; exact ⟨x, _, y, h⟩
      have hb05 : Below W1.heap.size W1 w5 := ((Below.refl _ _).drew).trans hb5
      have k0 := (hb05.cell (p := ⟨w.heap.size, 0, none⟩) hz0).trans q00
      have k1 := (hb05.cell (p := ⟨w.heap.size, 1, none⟩) hz0).trans q01
      have k2 := (hb05.cell (p := ⟨w.heap.size + 1, 1, none⟩) hz1).trans q11
      have hg5 := (hb05.block _ hz2).trans HGR.out
      have hbw5 := HBW.out.trans (hb05.mono HBW.out.size)
      have hn5' := HRAW.out _ _ hn5
      refine hK.out _ _ ⟨k0, k1, k2⟩ (fun hHeld2 => ?_)
      have HB5 := Lib.hid hbw5
      have HN5 := Lib.hid hn5'
      have HG5 := Lib.hid hg5
      clear hb5 hn5 hb05 hg5 hbw5 hn5' hK K hHeld
      try simp only [Act.put, List.setIfInBounds_toArray, List.set_cons_zero, List.set_cons_succ]
      refine wpAnyT_take 7 (v := ?_) (by kernel_rfl) rfl (by kernel_rfl) (by decide) rfl (by kernel_rfl) (by kernel_rfl) (fun _ _ _ h => h) (Or.inl ⟨by rfl, ?_⟩) (by assumption) ?_
      rotate_left
      · (intro wq hSq; (try dsimp only at hSq); go_simp; try with_reducible rfl)
      try simp only [Act.put, List.setIfInBounds_toArray, List.set_cons_zero, List.set_cons_succ]
      refine wpAnyT_step 8 (by kernel_rfl) rfl (fun K hK => ?_)
      go_simp
      go_at_call 92
      (with_reducible refine (HTR.out _ _ HN5.out).mono ?_)
      rintro e w6 ⟨v6, rfl, hn6, hb6⟩
      obtain ⟨a6, L6, c6, rfl⟩ : ∃ a5 L5 c5, v6 = .slice a5 L5 c5 := by obtain ⟨x, y, h⟩ := reads_len hn6; exact ⟨x, _, y, h⟩
      have hz5 := HB5.out.size
      have i0 := (hb6.cell (p := ⟨w.heap.size, 0, none⟩) (lt_of_cell k0)).trans k0
      have i1 := (hb6.cell (p := ⟨w.heap.size, 1, none⟩) (lt_of_cell k1)).trans k1
      have i2 := (hb6.cell (p := ⟨w.heap.size + 1, 1, none⟩) (lt_of_cell k2)).trans k2
      have hg6 := (hb6.block _ (lt_of_heap HG5.out)).trans HG5.out
      have hbw6 := HB5.out.trans (hb6.mono HB5.out.size)
      refine hK.out _ _ ⟨i0, i1, i2⟩ (fun hHeld3 => ?_)
      have HB6 := Lib.hid hbw6
      have HN6 := Lib.hid hn6
      have HG6 := Lib.hid hg6
      obtain ⟨d0, d1, fz0, fz1⟩ := num_cells hg6
      clear hb6 hn6 hg6 hbw6 hz5 k0 k1 k2 hK K hHeld2
      try simp only [Act.put, List.setIfInBounds_toArray, List.set_cons_zero, List.set_cons_succ]
      refine wpAnyT_last (by kernel_rfl) (by kernel_rfl) rfl (fun K hK => ?_)
      go_simp
      refine hK.out _ _ ?_
      clear hK K hHeld3
      have m2 := num_set HG6.out (.bool S) (.slice a6 L6 c6)
      have hb9 : Below w.heap.size w ((w6.setCell ⟨w.heap.size + 1 + 1, 0, none⟩ (.bool S)).setCell ⟨w.heap.size + 1 + 1, 1, none⟩ (.slice a6 L6 c6)) := (HB6.out.setCell (by simp; omega) _).setCell (by simp; omega) _
      have hn9 := numH_set HN6.out HG6.out (.bool S) (.slice a6 L6 c6)
      obtain ⟨d20, d21, -, -⟩ := num_cells m2
      clear m2 d0 d1 fz0 fz1 i0 i1 i2
      generalize (w6.setCell ⟨w.heap.size + 1 + 1, 0, none⟩ (.bool S)).setCell ⟨w.heap.size + 1 + 1, 1, none⟩ (.slice a6 L6 c6) = W9 at d20 d21 hb9 hn9 ⊢
      have HB9 := Lib.hid hb9
      have HN9 := Lib.hid hn9
      clear hb9 hn9
      go_wp2
      rw [HP.out]
      exact bodyPost_ret (v := .agg #[.bool S, .slice a6 L6 c6]) (by simp [results, Try.results76, go_sem, d20, d21]) rfl ⟨.slice a6 L6 c6, rfl, HN9.out, HB9.out⟩
    · have e1 : sumN A an C (!an) = A - C := by unfold sumN; rw [if_neg hab, if_neg hlt]
      have e2 : sumS A an C (!an) = an := by unfold sumS; rw [if_neg hab, if_neg hlt]
      rw [e1] at hN
      rw [e2] at hS
      obtain ⟨R, hR⟩ : ∃ R, R = cmpN A C := ⟨_, rfl⟩
      rw [← hR] at HOR
      have hR0 : ¬ R < 0 := by rw [hR, cmpN, if_neg hlt]; split <;> omega
      subst hN
      have HMN : Hid (∀ W va vb, World.numH W va A → World.numH W vb C → Calls Try.prog 98 #[va, vb] W (RawRet W (A - C) (hw A).length)) := fun W va vb h1 h2 => hminus_any A C (Nat.le_of_not_lt hlt) va vb W h1 h2 hla hlc
      have HTR : Hid (∀ v W, World.rawH W v (A - C) (hw A).length → Calls Try.prog 92 #[.agg #[.bool an, v]] W (SRet W S (A - C))) := fun v W h => by rw [hS]; exact htrim_any an (A - C) _ hw_lt_sub (Nat.le_trans hla (by omega)) v W h
      have HRAW : Hid (∀ v W, World.rawH W v (A - C) (hw A).length → World.rawH W v (A - C) (hw A).length) := fun v W h => h
      clear hS e1 e2 hR
      go_enter Try.func76, Try.ntmps76
      go_upto_region 1 with (fail)
      rw [← HW0.out]
      go_wp2_with fail
      (with_reducible refine (HOR.out).mono ?_)
      rintro e Wa ⟨rfl, n1, hw1⟩
      have hbd : Below W0.heap.size W0 Wa := by rw [hw1]; exact below_drewN (Below.refl _ _) n1
      have ga := (hbd.block _ hz0).trans HG0.out
      have gb := (hbd.block _ hz1).trans HG1.out
      have gr := (hbd.block _ hz2).trans HG2.out
      have hna := numH_below HNA.out hbd
      have hnc := numH_below HNC.out hbd
      have hbw := HB0.out.trans (hbd.mono HB0.out.size)
      replace hz0 := Nat.lt_of_lt_of_le hz0 hbd.size
      replace hz1 := Nat.lt_of_lt_of_le hz1 hbd.size
      replace hz2 := Nat.lt_of_lt_of_le hz2 hbd.size
      clear hbd c00 c01 c10 c11 f00 f01 f10 f11 hw1
      obtain ⟨q00, q01, -, -⟩ := num_cells ga
      obtain ⟨-, q11, -, -⟩ := num_cells gb
      have HGR := Lib.hid gr
      have HBW := Lib.hid hbw
      have HCA := Lib.hid (HMN.out Wa.drew _ _ hna.drew hnc.drew)
      clear ga gb gr hna hnc hbw
      go_wp2_with fail
      refine wp_region_line (fun w' => w'.cell? ⟨w.heap.size, 0, none⟩ = some (.bool an) ∧ w'.cell? ⟨w.heap.size, 1, none⟩ = some (.slice aa p ca) ∧ w'.cell? ⟨w.heap.size + 1, 1, none⟩ = some (.slice ab q cb)) 9 (by kernel_rfl) ⟨q00, q01, q11⟩ (fun hHeld => ?_)
      refine wpAnyT_take 0 (v := ?_) (by kernel_rfl) rfl (by kernel_rfl) (by decide) rfl (by kernel_rfl) (by kernel_rfl) (fun _ _ _ h => h) (Or.inl ⟨by rfl, ?_⟩) (by assumption) ?_
      rotate_left
      · (intro wq hSq; (try dsimp only at hSq); go_simp; try with_reducible rfl)
      try simp only [Act.put, List.setIfInBounds_toArray, List.set_cons_zero, List.set_cons_succ]
      refine wpAnyT_take 1 (v := ?_) (by kernel_rfl) rfl (by kernel_rfl) (by decide) rfl (by kernel_rfl) (by kernel_rfl) (fun _ _ _ h => h) (Or.inl ⟨by rfl, ?_⟩) (by assumption) ?_
      rotate_left
      · (intro wq hSq; (try dsimp only at hSq); go_simp; try with_reducible rfl)
      try simp only [Act.put, List.setIfInBounds_toArray, List.set_cons_zero, List.set_cons_succ]
      refine wpAnyT_take 2 (v := ?_) (by kernel_rfl) rfl (by kernel_rfl) (by decide) rfl (by kernel_rfl) (by kernel_rfl) (fun _ _ _ h => h) (Or.inl ⟨by rfl, ?_⟩) (by assumption) ?_
      rotate_left
      · (intro wq hSq; (try dsimp only at hSq); go_simp; try with_reducible rfl)
      try simp only [Act.put, List.setIfInBounds_toArray, List.set_cons_zero, List.set_cons_succ]
      refine wpAnyT_take 3 (v := ?_) (by kernel_rfl) rfl (by kernel_rfl) (by decide) rfl (by kernel_rfl) (by kernel_rfl) (fun _ _ _ h => h) (Or.inl ⟨by rfl, ?_⟩) (by assumption) ?_
      rotate_left
      · (intro wq hSq; (try dsimp only at hSq); go_simp; try with_reducible rfl)
      try simp only [Act.put, List.setIfInBounds_toArray, List.set_cons_zero, List.set_cons_succ]
      refine wpAnyT_take 4 (v := ?_) (by kernel_rfl) rfl (by kernel_rfl) (by decide) rfl (by kernel_rfl) (by kernel_rfl) (fun _ _ _ h => h) (Or.inl ⟨by rfl, ?_⟩) (by assumption) ?_
      rotate_left
      · (intro wq hSq; (try dsimp only at hSq); go_simp; try with_reducible rfl)
      try simp only [Act.put, List.setIfInBounds_toArray, List.set_cons_zero, List.set_cons_succ]
      refine wpAnyT_take 5 (v := ?_) (by kernel_rfl) rfl (by kernel_rfl) (by decide) rfl (by kernel_rfl) (by kernel_rfl) (fun _ _ _ h => h) (Or.inl ⟨by rfl, ?_⟩) (by assumption) ?_
      rotate_left
      · (intro wq hSq; (try dsimp only at hSq); go_simp; try with_reducible rfl)
      try simp only [Act.put, List.setIfInBounds_toArray, List.set_cons_zero, List.set_cons_succ]
      refine wpAnyT_step 6 (by kernel_rfl) rfl (fun K hK => ?_)
      go_simp
      go_at_call 98
      (with_reducible refine (HCA.out).mono ?_)
      rintro e w5 ⟨v5, rfl, hn5, hb5⟩
      obtain ⟨a5, L5, c5, rfl⟩ : ∃ a5 L5 c5, v5 = .slice a5 L5 c5 := by obtain ⟨x, y, h⟩ := reads_len hn5; exact ⟨x, _, y, h⟩
      have hb05 : Below Wa.heap.size Wa w5 := ((Below.refl _ _).drew).trans hb5
      have k0 := (hb05.cell (p := ⟨w.heap.size, 0, none⟩) hz0).trans q00
      have k1 := (hb05.cell (p := ⟨w.heap.size, 1, none⟩) hz0).trans q01
      have k2 := (hb05.cell (p := ⟨w.heap.size + 1, 1, none⟩) hz1).trans q11
      have hg5 := (hb05.block _ hz2).trans HGR.out
      have hbw5 := HBW.out.trans (hb05.mono HBW.out.size)
      have hn5' := HRAW.out _ _ hn5
      refine hK.out _ _ ⟨k0, k1, k2⟩ (fun hHeld2 => ?_)
      have HB5 := Lib.hid hbw5
      have HN5 := Lib.hid hn5'
      have HG5 := Lib.hid hg5
      clear hb5 hn5 hb05 hg5 hbw5 hn5' hK K hHeld
      try simp only [Act.put, List.setIfInBounds_toArray, List.set_cons_zero, List.set_cons_succ]
      refine wpAnyT_take 7 (v := ?_) (by kernel_rfl) rfl (by kernel_rfl) (by decide) rfl (by kernel_rfl) (by kernel_rfl) (fun _ _ _ h => h) (Or.inl ⟨by rfl, ?_⟩) (by assumption) ?_
      rotate_left
      · (intro wq hSq; (try dsimp only at hSq); go_simp; try with_reducible rfl)
      try simp only [Act.put, List.setIfInBounds_toArray, List.set_cons_zero, List.set_cons_succ]
      refine wpAnyT_step 8 (by kernel_rfl) rfl (fun K hK => ?_)
      go_simp
      go_at_call 92
      (with_reducible refine (HTR.out _ _ HN5.out).mono ?_)
      rintro e w6 ⟨v6, rfl, hn6, hb6⟩
      obtain ⟨a6, L6, c6, rfl⟩ : ∃ a5 L5 c5, v6 = .slice a5 L5 c5 := by obtain ⟨x, y, h⟩ := reads_len hn6; exact ⟨x, _, y, h⟩
      have hz5 := HB5.out.size
      have i0 := (hb6.cell (p := ⟨w.heap.size, 0, none⟩) (lt_of_cell k0)).trans k0
      have i1 := (hb6.cell (p := ⟨w.heap.size, 1, none⟩) (lt_of_cell k1)).trans k1
      have i2 := (hb6.cell (p := ⟨w.heap.size + 1, 1, none⟩) (lt_of_cell k2)).trans k2
      have hg6 := (hb6.block _ (lt_of_heap HG5.out)).trans HG5.out
      have hbw6 := HB5.out.trans (hb6.mono HB5.out.size)
      refine hK.out _ _ ⟨i0, i1, i2⟩ (fun hHeld3 => ?_)
      have HB6 := Lib.hid hbw6
      have HN6 := Lib.hid hn6
      have HG6 := Lib.hid hg6
      obtain ⟨d0, d1, fz0, fz1⟩ := num_cells hg6
      clear hb6 hn6 hg6 hbw6 hz5 k0 k1 k2 hK K hHeld2
      try simp only [Act.put, List.setIfInBounds_toArray, List.set_cons_zero, List.set_cons_succ]
      refine wpAnyT_last (by kernel_rfl) (by kernel_rfl) rfl (fun K hK => ?_)
      go_simp
      refine hK.out _ _ ?_
      clear hK K hHeld3
      have m2 := num_set HG6.out (.bool S) (.slice a6 L6 c6)
      have hb9 : Below w.heap.size w ((w6.setCell ⟨w.heap.size + 1 + 1, 0, none⟩ (.bool S)).setCell ⟨w.heap.size + 1 + 1, 1, none⟩ (.slice a6 L6 c6)) := (HB6.out.setCell (by simp; omega) _).setCell (by simp; omega) _
      have hn9 := numH_set HN6.out HG6.out (.bool S) (.slice a6 L6 c6)
      obtain ⟨d20, d21, -, -⟩ := num_cells m2
      clear m2 d0 d1 fz0 fz1 i0 i1 i2
      generalize (w6.setCell ⟨w.heap.size + 1 + 1, 0, none⟩ (.bool S)).setCell ⟨w.heap.size + 1 + 1, 1, none⟩ (.slice a6 L6 c6) = W9 at d20 d21 hb9 hn9 ⊢
      have HB9 := Lib.hid hb9
      have HN9 := Lib.hid hn9
      clear hb9 hn9
      go_wp2
      rw [HP.out]
      exact bodyPost_ret (v := .agg #[.bool S, .slice a6 L6 c6]) (by simp [results, Try.results76, go_sem, d20, d21]) rfl ⟨.slice a6 L6 c6, rfl, HN9.out, HB9.out⟩
end Go.Proofs.Ytkjlfjnncdkmlaa

/- The reference's numbers with signs: the product. -/
namespace Go.Proofs.Ytkjlfjnncdkmlaa
set_option linter.all false
open Go.RowKit Go.Shelf Go.WideNum
theorem list_dig {B : Nat} (hB : 0 < B) (t : List Nat) (L : Nat) (ht : t.length = L) (hl : ∀ x ∈ t, x < B) : t = (List.range L).map (dig B (valW B t)) := by
  apply List.ext_getElem
  · simp [ht]
  · intro i h1 h2
    rw [List.getElem_map, List.getElem_range, valW_dig hB t hl, List.getD_eq_getElem?_getD, List.getElem?_eq_getElem h1]
    rfl
theorem zrow_map (n : Nat) : zrow n = ((List.replicate n 0).map u32V).toArray := by simp [zrow, u32V]
set_option maxRecDepth 100000 in
set_option maxHeartbeats 8000000 in
theorem hmul_any (an : Bool) (A : Nat) (va : Value) (bn : Bool) (C : Nat) (vb : Value) (w : World) (hA : World.numH w va A) (hC : World.numH w vb C) (hla : (hw A).length ≤ 4000) (hlc : (hw C).length ≤ 4000) :
    Calls Try.prog 78 #[.agg #[.bool an, va], .agg #[.bool bn, vb]] w (SRet w ((an != bn) && decide (A * C ≠ 0)) (A * C)) := by
  obtain ⟨aa, p, ca, hp, rfl, hca, hma, hsa⟩ := numH_words hA
  obtain ⟨ab, q, cb, hq, rfl, hcb, hmb, hsb⟩ := numH_words hC
  clear hA hC
  have hva := hw_vlt A
  have hvc := hw_vlt C
  rw [← hp] at hla hva
  rw [← hq] at hlc hvc
  have HA := Lib.hid hsa
  have HC := Lib.hid hsb
  have HVA := Lib.hid hva
  have HVC := Lib.hid hvc
  obtain ⟨sg, hsg⟩ : ∃ sg, sg = (an != bn) := ⟨_, rfl⟩
  rw [← hsg]
  have HSG := Lib.hid hsg
  obtain ⟨S, hS⟩ : ∃ S, S = (sg && decide (A * C ≠ 0)) := ⟨_, rfl⟩
  rw [← hS]
  have HTR : Hid (∀ v W, World.rawH W v (A * C) (p + q) → Calls Try.prog 92 #[.agg #[.bool sg, v]] W (SRet W S (A * C))) := fun v W h => by
    rw [hS]
    exact htrim_any sg (A * C) _ (by rw [Nat.pow_add]; exact Nat.mul_lt_mul'' hva hvc) (by omega) v W h
  obtain ⟨HPOST, hpost⟩ : ∃ R, R = SRet w S (A * C) := ⟨_, rfl⟩
  rw [← hpost]
  have HP := Lib.hid hpost
  have hmk : ∀ W : World, (Instr.makeSlice 23 (.int .i64 ((p : Int) + (q : Int))) (.int .i64 ((p : Int) + (q : Int)))).run Try.prog W = .ok (.slice (some ⟨W.heap.size, 0, none⟩) (p + q) (p + q)) (W.alloc (.cells (zrow (p + q)) 22)) := fun W => make_u32 (p + q) (by omega) W
  clear hp hq hsa hsb hva hvc hpost hS hsg hma hmb
  obtain ⟨W0, hW0⟩ : ∃ W0, W0 = ((w.alloc (.cells #[.bool an, .slice aa p ca] 77)).alloc (.cells #[.bool bn, .slice ab q cb] 77)).alloc (.cells #[.bool false, .slice none 0 0] 77) := ⟨_, rfl⟩
  have g0 : W0.heap[w.heap.size]? = some (.cells #[.bool an, .slice aa p ca] 77) := by rw [hW0, Below.heap_alloc _ _ _ (by simp; omega), Below.heap_alloc _ _ _ (by simp)]; exact heap_alloc_new w _
  have g1 : W0.heap[w.heap.size + 1]? = some (.cells #[.bool bn, .slice ab q cb] 77) := by rw [hW0, Below.heap_alloc _ _ _ (by simp)]; exact alloc_last _ _ (by simp)
  have g2 : W0.heap[w.heap.size + 1 + 1]? = some (.cells #[.bool false, .slice none 0 0] 77) := by rw [hW0]; exact alloc_last _ _ (by simp)
  have hb0 : Below w.heap.size w W0 := by rw [hW0]; exact ((((Below.refl _ w).alloc (Nat.le_refl _) _).alloc (by simp) _).alloc (by simp; omega) _)
  have HB0 := Lib.hid hb0
  have HG0 := Lib.hid g0
  have HG1 := Lib.hid g1
  have HG2 := Lib.hid g2
  obtain ⟨c00, c01, f00, f01⟩ := num_cells g0
  obtain ⟨c10, c11, f10, f11⟩ := num_cells g1
  have HW0 := Lib.hid hW0
  have hz0 : w.heap.size < W0.heap.size := lt_of_heap HG0.out
  have hz1 : w.heap.size + 1 < W0.heap.size := lt_of_heap HG1.out
  have hz2 : w.heap.size + 1 + 1 < W0.heap.size := lt_of_heap HG2.out
  clear hb0 g0 g1 g2 hW0
  go_enter Try.func78, Try.ntmps78
  go_upto_region 1 with (fail)
  rw [← HW0.out]
  go_wp2_with fail
  go_loopw [6] (fun iv wr => ∃ (i : Nat) (t : List Nat), i ≤ p ∧ iv = .int .i64 (i : Int) ∧ MulSt 65536 A C i 0 0 t q (p + q) ∧ wr.heap[W0.heap.size]? = some (.cells (t.map u32V).toArray 22) ∧ Below W0.heap.size W0 wr) (fun iv _ => p - (intOf iv).toNat)
  case atStart => exact ⟨0, List.replicate (p + q) 0, Nat.zero_le _, rfl, MulSt.start (by omega) rfl, by rw [← zrow_map]; exact heap_alloc_new W0 _, (Below.refl _ W0).alloc (Nat.le_refl _) _⟩
  case round =>
    obtain ⟨i, t, hi, rfl, hM, hg, hb⟩ := hrel
    have hz3 := lt_of_heap hg
    clear c00 c01 c10 c11 f00 f01 f10 f11 hmk
    by_cases hlt : i < p
    · obtain ⟨b, off, rfl, hbl, hx0⟩ := HA.out i hlt
      obtain ⟨wo, hwo⟩ : ∃ x, x = wr := ⟨_, rfl⟩
      rw [← hwo] at hg hb ⊢
      clear hwo
      obtain ⟨c00, c01, f00, f01⟩ := num_cells ((hb.block _ hz0).trans HG0.out)
      have HM := Lib.hid hM
      have HG := Lib.hid hg
      have HB := Lib.hid hb
      clear hM hg hb
      go_wp2_with fail
      clear c00 c01 f00 f01
      go_loopw [7, 8] (fun cv kv wr => ∃ (k c : Nat) (t : List Nat), k ≤ q ∧ kv = .int .i64 (k : Int) ∧ cv = .int .u32 (c : Int) ∧ MulSt 65536 A C i k c t q (p + q) ∧ wr.heap[W0.heap.size]? = some (.cells (t.map u32V).toArray 22) ∧ Below W0.heap.size W0 wr) (fun _ kv _ => q - (intOf kv).toNat)
      case atStart => exact ⟨0, 0, t, Nat.zero_le _, rfl, rfl, HM.out, HG.out, HB.out⟩
      case round =>
        obtain ⟨k, c, t2, hk, rfl, rfl, hM, hg, hb⟩ := hrel
        obtain ⟨c00, c01, f00, f01⟩ := num_cells ((hb.block _ hz0).trans HG0.out)
        obtain ⟨c10, c11, f10, f11⟩ := num_cells ((hb.block _ hz1).trans HG1.out)
        by_cases hkt : k < q
        · obtain ⟨b2, off2, rfl, hbl2, hy0⟩ := HC.out k hkt
          have hx := (hb.cell (p := ⟨b, off + i, none⟩) (show b < W0.heap.size by omega)).trans ((HB0.out.cell (p := ⟨b, off + i, none⟩) hbl).trans hx0)
          have hy := (hb.cell (p := ⟨b2, off2 + k, none⟩) (show b2 < W0.heap.size by omega)).trans ((HB0.out.cell (p := ⟨b2, off2 + k, none⟩) hbl2).trans hy0)
          obtain ⟨hs, hM2⟩ := hM.step (by omega) hkt (by omega)
          obtain ⟨hcu, hfu⟩ := arr_cell hg (i + k) (by rw [hM.len]; omega)
          have hxd := hw_dig A i
          have hyd := hw_dig C k
          have hvd := getD_lt (B := 65536) (by omega) hM.low (i + k)
          have hcd := hM.clt
          obtain ⟨x, ex⟩ : ∃ x, x = dig 65536 A i := ⟨_, rfl⟩
          obtain ⟨y, ey⟩ : ∃ x, x = dig 65536 C k := ⟨_, rfl⟩
          obtain ⟨v, ev⟩ : ∃ x, x = t2.getD (i + k) 0 := ⟨_, rfl⟩
          rw [← ex] at hx hs hM2 hxd
          rw [← ey] at hy hs hM2 hyd
          rw [← ev] at hcu hs hM2 hvd
          obtain ⟨m, em⟩ : ∃ m, m = x * y := ⟨_, rfl⟩
          rw [← em] at hs hM2
          obtain ⟨n1, en⟩ : ∃ n, n = c + v := ⟨_, rfl⟩
          obtain ⟨s, es⟩ : ∃ n, n = n1 + m := ⟨_, rfl⟩
          rw [show c + (v + m) = s by omega] at hs hM2
          have w1 : IntKind.u32.wrap ((x : Int) * (y : Int)) = (m : Int) := by
            rw [← Int.natCast_mul, ← em, IntKind.wrap_u32]
            omega
          have w2 : IntKind.u32.wrap ((c : Int) + (v : Int)) = (n1 : Int) := by rw [IntKind.wrap_u32]; omega
          have w3 : IntKind.u32.wrap ((n1 : Int) + (m : Int)) = (s : Int) := by rw [IntKind.wrap_u32]; omega
          obtain ⟨j, ej⟩ : ∃ j, j = i + k := ⟨_, rfl⟩
          have w7 : IntKind.i64.wrap ((i : Int) + (k : Int)) = (j : Int) := by rw [ej]; exact IntWalk.i64_in _ (by omega)
          have w8 : (0 : Int) ≤ (j : Int) := by omega
          have w9 : (j : Int) < ((p + q : Nat) : Int) := by omega
          have w9' : (j : Int) < (p : Int) + (q : Int) := by omega
          have w10 : (i : Int) < (p : Int) := by omega
          have w11 : (k : Int) < (q : Int) := by omega
          have w12 : (i : Int) + (k : Int) = (j : Int) := by omega
          have w13 : IntKind.i64.wrap (j : Int) = (j : Int) := IntWalk.i64_in _ (by omega)
          rw [← ej] at hcu hfu hM2
          have HG2 := Lib.hid hg
          have HM2 := Lib.hid hM2
          clear hx0 hy0 ex ey ev em en es ej hg hM hM2
          go_wp2_with fail
          refine wp_region_heldL (fun w' => w'.cell? ⟨W0.heap.size, j, none⟩ = some (.int .u32 (v : Int)) ∧ w'.cell? ⟨w.heap.size, 1, none⟩ = some (.slice (some ⟨b, off, none⟩) p ca) ∧ w'.cell? ⟨w.heap.size + 1, 1, none⟩ = some (.slice (some ⟨b2, off2, none⟩) q cb) ∧ w'.cell? ⟨b, off + i, none⟩ = some (.int .u32 (x : Int)) ∧ w'.cell? ⟨b2, off2 + k, none⟩ = some (.int .u32 (y : Int))) (by kernel_rfl) ⟨hcu, c01, c11, hx, hy⟩ (fun hS => ?_)
          refine wpAnyH_takeL 0 (v := ?_) (by kernel_rfl) rfl (by kernel_rfl) (by kernel_rfl) (fun _ _ _ h => h) (Or.inl ⟨by rfl, ?_⟩) (by assumption) ?_
          rotate_left
          · (intro wq hSq; (try dsimp only at hSq); go_simp; try with_reducible rfl)
          try simp only [Act.put, List.setIfInBounds_toArray, List.set_cons_zero, List.set_cons_succ]
          refine wpAnyH_takeL 1 (v := ?_) (by kernel_rfl) rfl (by kernel_rfl) (by kernel_rfl) (fun _ _ _ h => h) (Or.inl ⟨by rfl, ?_⟩) (by assumption) ?_
          rotate_left
          · (intro wq hSq; (try dsimp only at hSq); go_simp; try with_reducible rfl)
          try simp only [Act.put, List.setIfInBounds_toArray, List.set_cons_zero, List.set_cons_succ]
          refine wpAnyH_takeL 2 (v := ?_) (by kernel_rfl) rfl (by kernel_rfl) (by kernel_rfl) (fun _ _ _ h => h) (Or.inl ⟨by rfl, ?_⟩) (by assumption) ?_
          rotate_left
          · (intro wq hSq; (try dsimp only at hSq); go_simp; try with_reducible rfl)
          try simp only [Act.put, List.setIfInBounds_toArray, List.set_cons_zero, List.set_cons_succ]
          refine wpAnyH_takeL 3 (v := ?_) (by kernel_rfl) rfl (by kernel_rfl) (by kernel_rfl) (fun _ _ _ h => h) (Or.inl ⟨by rfl, ?_⟩) (by assumption) ?_
          rotate_left
          · (intro wq hSq; (try dsimp only at hSq); go_simp; try with_reducible rfl)
          try simp only [Act.put, List.setIfInBounds_toArray, List.set_cons_zero, List.set_cons_succ]
          refine wpAnyH_takeL 4 (v := ?_) (by kernel_rfl) rfl (by kernel_rfl) (by kernel_rfl) (fun _ _ _ h => h) (Or.inl ⟨by rfl, ?_⟩) (by assumption) ?_
          rotate_left
          · (intro wq hSq; (try dsimp only at hSq); go_simp; try with_reducible rfl)
          try simp only [Act.put, List.setIfInBounds_toArray, List.set_cons_zero, List.set_cons_succ]
          refine wpAnyH_takeL 5 (v := ?_) (by kernel_rfl) rfl (by kernel_rfl) (by kernel_rfl) (fun _ _ _ h => h) (Or.inl ⟨by rfl, ?_⟩) (by assumption) ?_
          rotate_left
          · (intro wq hSq; (try dsimp only at hSq); go_simp; try with_reducible rfl)
          try simp only [Act.put, List.setIfInBounds_toArray, List.set_cons_zero, List.set_cons_succ]
          refine wpAnyH_takeL 6 (v := ?_) (by kernel_rfl) rfl (by kernel_rfl) (by kernel_rfl) (fun _ _ _ h => h) (Or.inl ⟨by rfl, ?_⟩) (by assumption) ?_
          rotate_left
          · (intro wq hSq; (try dsimp only at hSq); go_simp; try with_reducible rfl)
          try simp only [Act.put, List.setIfInBounds_toArray, List.set_cons_zero, List.set_cons_succ]
          refine wpAnyH_takeL 7 (v := ?_) (by kernel_rfl) rfl (by kernel_rfl) (by kernel_rfl) (fun _ _ _ h => h) (Or.inl ⟨by rfl, ?_⟩) (by assumption) ?_
          rotate_left
          · (intro wq hSq; (try dsimp only at hSq); go_simp; try with_reducible rfl)
          try simp only [Act.put, List.setIfInBounds_toArray, List.set_cons_zero, List.set_cons_succ]
          refine wpAnyH_takeL 8 (v := ?_) (by kernel_rfl) rfl (by kernel_rfl) (by kernel_rfl) (fun _ _ _ h => h) (Or.inl ⟨by rfl, ?_⟩) (by assumption) ?_
          rotate_left
          · (intro wq hSq; (try dsimp only at hSq); go_simp; try with_reducible rfl)
          try simp only [Act.put, List.setIfInBounds_toArray, List.set_cons_zero, List.set_cons_succ]
          refine wpAnyH_takeL 9 (v := ?_) (by kernel_rfl) rfl (by kernel_rfl) (by kernel_rfl) (fun _ _ _ h => h) (Or.inl ⟨by rfl, ?_⟩) (by assumption) ?_
          rotate_left
          · (intro wq hSq; (try dsimp only at hSq); go_simp; try with_reducible rfl)
          try simp only [Act.put, List.setIfInBounds_toArray, List.set_cons_zero, List.set_cons_succ]
          refine wpAnyH_takeL 10 (v := ?_) (by kernel_rfl) rfl (by kernel_rfl) (by kernel_rfl) (fun _ _ _ h => h) (Or.inl ⟨by rfl, ?_⟩) (by assumption) ?_
          rotate_left
          · (intro wq hSq; (try dsimp only at hSq); go_simp; try with_reducible rfl)
          try simp only [Act.put, List.setIfInBounds_toArray, List.set_cons_zero, List.set_cons_succ]
          refine wpAnyH_takeL 11 (v := ?_) (by kernel_rfl) rfl (by kernel_rfl) (by kernel_rfl) (fun _ _ _ h => h) (Or.inl ⟨by rfl, ?_⟩) (by assumption) ?_
          rotate_left
          · (intro wq hSq; (try dsimp only at hSq); go_simp; try with_reducible rfl)
          try simp only [Act.put, List.setIfInBounds_toArray, List.set_cons_zero, List.set_cons_succ]
          refine wpAnyH_takeL 12 (v := ?_) (by kernel_rfl) rfl (by kernel_rfl) (by kernel_rfl) (fun _ _ _ h => h) (Or.inl ⟨by rfl, ?_⟩) (by assumption) ?_
          rotate_left
          · (intro wq hSq; (try dsimp only at hSq); go_simp; try with_reducible rfl)
          try simp only [Act.put, List.setIfInBounds_toArray, List.set_cons_zero, List.set_cons_succ]
          refine wpAnyH_takeL 13 (v := ?_) (by kernel_rfl) rfl (by kernel_rfl) (by kernel_rfl) (fun _ _ _ h => h) (Or.inl ⟨by rfl, ?_⟩) (by assumption) ?_
          rotate_left
          · (intro wq hSq; (try dsimp only at hSq); go_simp; try with_reducible rfl)
          try simp only [Act.put, List.setIfInBounds_toArray, List.set_cons_zero, List.set_cons_succ]
          refine wpAnyH_takeL 14 (v := ?_) (by kernel_rfl) rfl (by kernel_rfl) (by kernel_rfl) (fun _ _ _ h => h) (Or.inl ⟨by rfl, ?_⟩) (by assumption) ?_
          rotate_left
          · (intro wq hSq; (try dsimp only at hSq); go_simp; try with_reducible rfl)
          try simp only [Act.put, List.setIfInBounds_toArray, List.set_cons_zero, List.set_cons_succ]
          refine wpAnyH_takeL 15 (v := ?_) (by kernel_rfl) rfl (by kernel_rfl) (by kernel_rfl) (fun _ _ _ h => h) (Or.inl ⟨by rfl, ?_⟩) (by assumption) ?_
          rotate_left
          · (intro wq hSq; (try dsimp only at hSq); go_simp; try with_reducible rfl)
          try simp only [Act.put, List.setIfInBounds_toArray, List.set_cons_zero, List.set_cons_succ]
          refine wpAnyH_takeL 16 (v := ?_) (by kernel_rfl) rfl (by kernel_rfl) (by kernel_rfl) (fun _ _ _ h => h) (Or.inl ⟨by rfl, ?_⟩) (by assumption) ?_
          rotate_left
          · (intro wq hSq; (try dsimp only at hSq); go_simp; try with_reducible rfl)
          try simp only [Act.put, List.setIfInBounds_toArray, List.set_cons_zero, List.set_cons_succ]
          refine wpAnyH_takeL 17 (v := ?_) (by kernel_rfl) rfl (by kernel_rfl) (by kernel_rfl) (fun _ _ _ h => h) (Or.inl ⟨by rfl, ?_⟩) (by assumption) ?_
          rotate_left
          · (intro wq hSq; (try dsimp only at hSq); go_simp; try with_reducible rfl)
          try simp only [Act.put, List.setIfInBounds_toArray, List.set_cons_zero, List.set_cons_succ]
          refine wpAnyH_takeL 18 (v := ?_) (by kernel_rfl) rfl (by kernel_rfl) (by kernel_rfl) (fun _ _ _ h => h) (Or.inl ⟨by rfl, ?_⟩) (by assumption) ?_
          rotate_left
          · (intro wq hSq; (try dsimp only at hSq); go_simp; try with_reducible rfl)
          try simp only [Act.put, List.setIfInBounds_toArray, List.set_cons_zero, List.set_cons_succ]
          refine wpAnyH_takeL 19 (v := ?_) (by kernel_rfl) rfl (by kernel_rfl) (by kernel_rfl) (fun _ _ _ h => h) (Or.inl ⟨by rfl, ?_⟩) (by assumption) ?_
          rotate_left
          · (intro wq hSq; (try dsimp only at hSq); go_simp; try with_reducible rfl)
          try simp only [Act.put, List.setIfInBounds_toArray, List.set_cons_zero, List.set_cons_succ]
          refine wpAnyH_takeL 20 (v := ?_) (by kernel_rfl) rfl (by kernel_rfl) (by kernel_rfl) (fun _ _ _ h => h) (Or.inl ⟨by rfl, ?_⟩) (by assumption) ?_
          rotate_left
          · (intro wq hSq; (try dsimp only at hSq); go_simp; try with_reducible rfl)
          try simp only [Act.put, List.setIfInBounds_toArray, List.set_cons_zero, List.set_cons_succ]
          refine wpAnyH_end (by kernel_rfl) ?_
          go_wp2_with fail
          go_roundw
          case rel =>
            refine ⟨k + 1, s / 65536, t2.set j (s % 65536), by omega, by go_num, by simp, HM2.out, ?_, (hb.setCell (by simp) _).drew⟩
            rw [show ((s : Int) % 65536) = ((s % 65536 : Nat) : Int) by omega]
            exact arr_set HG2.out _
          case measure => simp [intOf]; omega
        · obtain rfl : k = q := by omega
          obtain ⟨hcu, hfu⟩ := arr_cell hg (i + k) (by rw [hM.len]; omega)
          have hcd := hM.clt
          have HM2 := Lib.hid (hM.row (by omega) (by omega) HVC.out)
          have HG2 := Lib.hid hg
          clear hM hg
          go_wp2_with fail
          go_roundw
          case rel => exact ⟨i + 1, t2.set (i + k) c, by omega, by go_num, HM2.out, arr_set HG2.out _, hb.setCell (by simp) _⟩
          case measure => simp [intOf]; omega
    · obtain rfl : i = p := by omega
      obtain ⟨c00, c01, f00, f01⟩ := num_cells ((hb.block _ hz0).trans HG0.out)
      obtain ⟨c10, c11, f10, f11⟩ := num_cells ((hb.block _ hz1).trans HG1.out)
      have hraw : World.rawH wr (.slice (some ⟨W0.heap.size, 0, none⟩) (i + q) (i + q)) (A * C) (i + q) := by
        have hd := hM.done HVA.out
        rw [List.take_of_length_le (by rw [hM.len]; exact Nat.le_refl _)] at hd
        have hl := list_dig (B := 65536) (by omega) t (i + q) hM.len hM.low
        rw [hd] at hl
        show World.reads _ _ _ _
        rw [← hl]
        have := reads_block (B := wr.heap.size) (l := t.map u32V) hg hz3 (i + q) (by simp [hM.len]) (by unfold maxLen; omega)
        rw [List.length_map, hM.len] at this
        exact this
      have HR := Lib.hid hraw
      have HGR := Lib.hid ((hb.block _ hz2).trans HG2.out)
      have HBW := Lib.hid (HB0.out.trans (hb.mono HB0.out.size))
      have t1 : (!(an == bn)) = sg := by rw [HSG.out]; rfl
      have t2 : (an != bn) = sg := HSG.out.symm
      clear hM hg hb hraw
      go_wp2_with fail
      (with_reducible refine (HTR.out _ _ HR.out).mono ?_)
      rintro e w6 ⟨v6, rfl, hn6, hb6⟩
      obtain ⟨a6, L6, c6, rfl⟩ : ∃ a5 L5 c5, v6 = .slice a5 L5 c5 := by obtain ⟨x, y, h⟩ := reads_len hn6; exact ⟨x, _, y, h⟩
      have hg6 := (hb6.block _ (lt_of_heap HGR.out)).trans HGR.out
      have HB6 := Lib.hid (HBW.out.trans (hb6.mono HBW.out.size))
      have HN6 := Lib.hid hn6
      have HG6 := Lib.hid hg6
      clear c00 c01 f00 f01 c10 c11 f10 f11
      obtain ⟨d0, d1, fz0, fz1⟩ := num_cells hg6
      clear hb6 hn6 hg6
      go_wp2
      have m2 := num_set HG6.out (.bool S) (.slice a6 L6 c6)
      have hb9 : Below w.heap.size w ((w6.setCell ⟨w.heap.size + 1 + 1, 0, none⟩ (.bool S)).setCell ⟨w.heap.size + 1 + 1, 1, none⟩ (.slice a6 L6 c6)) := (HB6.out.setCell (by simp; omega) _).setCell (by simp; omega) _
      have hn9 := numH_set HN6.out HG6.out (.bool S) (.slice a6 L6 c6)
      obtain ⟨d20, d21, -, -⟩ := num_cells m2
      clear m2 d0 d1 fz0 fz1
      generalize (w6.setCell ⟨w.heap.size + 1 + 1, 0, none⟩ (.bool S)).setCell ⟨w.heap.size + 1 + 1, 1, none⟩ (.slice a6 L6 c6) = W9 at d20 d21 hb9 hn9 ⊢
      rw [HP.out]
      exact bodyPost_ret (v := .agg #[.bool S, .slice a6 L6 c6]) (by simp [results, Try.results78, go_sem, d20, d21]) rfl ⟨.slice a6 L6 c6, rfl, hn9, hb9⟩
end Go.Proofs.Ytkjlfjnncdkmlaa

/- The reference: helpers of its exported functions. -/
namespace Go
section
variable {P : Program} {ops : Array Oper} {Q : Exit → Act → World → Prop} {S : World → Prop} {late : Nat → Bool}
/-- The one operation that may come up; S is shown again behind it. -/
theorem wpAnyD_keep (i : Nat) {o : Oper} {fuel : Nat} {listed : Array Bool} {a : Act} {w : World} (hr : Region.ready .any ops listed = [i]) (ho : ops.toList[i]? = some o)
    (h : ∀ K' : Act → World → Prop, Shut (∀ a w, S w → (S w → wpAnyD P ops Q S late fuel (listed.setIfInBounds i true) a w) → K' a w) → if Region.wanted o (yielded ops a.tmps) = true then Oper.wp P o a w K' Q else K' (a.put o.dst undef) w) :
    wpAnyD P ops Q S late (fuel + 1) listed a w := by
  refine ⟨fun h0 => (by rw [hr] at h0; cases h0), fun j hj => ?_⟩
  rw [hr] at hj
  obtain rfl : j = i := by simpa using hj
  exact wpOp_step (by simpa using ho) (fun K' hK => h K' (fun a w hS hW => hK a w ⟨fun _ _ => hS, hW hS⟩))
end
end Go
namespace Go.Proofs.Ytkjlfjnncdkmlaa
set_option linter.all false
open Go.RowKit Go.Shelf Go.WideNum
theorem zOf_and (s : Bool) (n : Nat) : zOf (s && decide (n ≠ 0)) n = zOf s n := by
  by_cases h : n = 0
  · subst h; cases s <;> simp [zOf]
  · simp [h]
theorem hout_num (s : Bool) (n : Nat) (hl : (hw n).length ≤ 10000) (fb : Bool) (ft : ByteArray) (E : Int) (h1 : outZ (zOf s n) = .agg #[.bool fb, .string ft]) (h2 : errZ (zOf s n) = E) (v : Value) (w : World) (h : World.numH w v n) :
    Calls Try.prog 53 #[.agg #[.bool s, v]] w fun e w' => e = .returned (.tuple #[.agg #[.bool fb, .string ft], .int .i64 E]) ∧ Below w.heap.size w w' := by
  have := hout_any s n _ (hw_vlt n) hl v w (numH_raw h)
  unfold FormRet at this
  rw [outB_z, outE_z s, h1, h2] at this
  exact this
theorem refValid_wide (neg : Bool) (s : ByteArray) (hs : s.size ≤ maxLen) (ok : Bool) (hok : ok = validB neg s) (w : World) :
    Calls Try.prog 75 #[.agg #[.bool neg, .string s]] w fun e w' => e = .returned (.bool ok) ∧ Below w.heap.size w w' := by subst hok; exact refValid_any neg s hs w
theorem hw_len129 {n : Nat} (h : n < lim) : (hw n).length ≤ 129 := by
  have h1 := hw_halves n
  have h2 := (lim_iff n _ rfl).1 h
  omega
theorem hw_len_mul {A C : Nat} {a c : Nat} (ha : (hw A).length ≤ a) (hc : (hw C).length ≤ c) : (hw (A * C)).length ≤ a + c := hw_len_le (by
  rw [Nat.pow_add]
  exact Nat.mul_lt_mul'' (Nat.lt_of_lt_of_le (hw_vlt A) (Nat.pow_le_pow_right (by omega) ha)) (Nat.lt_of_lt_of_le (hw_vlt C) (Nat.pow_le_pow_right (by omega) hc)))
theorem hw_len_mono {A C k : Nat} (h : A ≤ C) (hc : (hw C).length ≤ k) : (hw A).length ≤ k := hw_len_le (Nat.lt_of_le_of_lt h (Nat.lt_of_lt_of_le (hw_vlt C) (Nat.pow_le_pow_right (by omega) hc)))
theorem hw_len_sum {A C n : Nat} (ha : (hw A).length ≤ 2000) (hc : (hw C).length ≤ 2000) (h : n ≤ A + C) : (hw n).length ≤ 4001 :=
  hw_len_mono h (hw_len_add (Nat.le_trans ha (by omega)) (Nat.le_trans hc (by omega)))
theorem wide_hold {w w' W : World} {g : Nat} {b : Bool} {s : ByteArray} (h : W.heap[g]? = some (.cells #[.bool b, .string s] 42)) (hb : Below W.heap.size W w') : w'.heap[g]? = some (.cells #[.bool b, .string s] 42) := (hb.block _ (lt_of_heap h)).trans h
end Go.Proofs.Ytkjlfjnncdkmlaa

/- Walks: the integer of 64 bits of a form: the program's. -/
namespace Go.Proofs.Ytkjlfjnncdkmlaa
set_option linter.all false
open Go.RowKit Go.Shelf Go.WideNum
theorem zeros_app (n : Nat) : (wd n).map u32V ++ [.int .u32 0, .int .u32 0] = ((List.range ((wd n).length + 2)).map (dig 4294967296 n)).map u32V := by
  rw [show (wd n).length + 2 = (wd n).length + 1 + 1 by omega, List.range_succ, List.range_succ]
  simp only [List.map_append, List.map_cons, List.map_nil]
  rw [wd_high n _ (Nat.le_refl _), wd_high n _ (Nat.le_succ _)]
  have h : (List.range (wd n).length).map (dig 4294967296 n) = wd n := by
    apply List.ext_getElem?
    intro i
    rcases Nat.lt_or_ge i (wd n).length with h | h
    · rw [wd_get n i h]; simp [h]
    · rw [List.getElem?_eq_none (by simpa using h), List.getElem?_eq_none h]
  rw [h]
  simp [u32V]
end Go.Proofs.Ytkjlfjnncdkmlaa

/- Plain: long division by words: the numbers of a round; the rows in memory. -/
namespace Go.Proofs.Ytkjlfjnncdkmlaa
set_option linter.all false
open Go.RowKit Go.Shelf Go.WideNum
theorem top_two {B X k : Nat} (hB : 0 < B) (h : X < B ^ (k + 2)) : X / B ^ k = dig B X (k + 1) * B + dig B X k := by
  have hp : 0 < B ^ k := Nat.pow_pos hB
  unfold dig
  have h1 : X / B ^ k < B * B := (Nat.div_lt_iff_lt_mul hp).2 (by rw [Nat.pow_succ, Nat.pow_succ] at h; rw [Nat.mul_assoc, Nat.mul_comm] at h; exact h)
  rw [Nat.pow_succ, ← Nat.div_div_eq_div_mul]
  obtain ⟨Y, hY⟩ : ∃ Y, Y = X / B ^ k := ⟨_, rfl⟩
  rw [← hY] at h1 ⊢
  have h2 : Y / B < B := (Nat.div_lt_iff_lt_mul hB).2 h1
  rw [Nat.mod_eq_of_lt h2]
  have := Nat.mod_add_div Y B
  rw [Nat.mul_comm] at this
  omega
theorem wd_len_le2 {A C k : Nat} (h : A ≤ C) (hc : (wd C).length ≤ k) : (wd A).length ≤ k := by
  have h1 := words_length (B := 4294967296) (by omega) A (wd C).length (Nat.lt_of_le_of_lt h (wd_vlt C))
  unfold wd at *; omega
theorem norm_facts (A C s n p : Nat) (hn : n = (wd C).length) (hp : p = (wd A).length) (hAC : C ≤ A) (hn2 : 2 ≤ n) (hs : s < 32) (htop : dig 4294967296 C (n - 1) < 2 ^ (32 - s)) :
    (wd (C * 2 ^ s)).length = n ∧ A * 2 ^ s < C * 2 ^ s * 4294967296 ^ (p + 1 - n) ∧ A * 2 ^ s < 4294967296 ^ (p + 1) ∧ (wd (A * 2 ^ s)).length ≤ p + 1 ∧ n ≤ p ∧ C * 2 ^ s < 4294967296 ^ n ∧ 4294967296 ^ (n - 1) ≤ C * 2 ^ s ∧ 0 < C := by
  have hp2 : 0 < 2 ^ s := Nat.pow_pos (by omega)
  have hCl := wd_vlt C
  have hAl := wd_vlt A
  rw [← hn] at hCl
  rw [← hp] at hAl
  have hClo : 4294967296 ^ (n - 1) ≤ C := by
    rcases Nat.lt_or_ge C (4294967296 ^ (n - 1)) with h | h
    · have := words_length (B := 4294967296) (by omega) C (n - 1) h
      unfold wd at hn
      omega
    · exact h
  have hC0 : 0 < C := Nat.lt_of_lt_of_le (Nat.pow_pos (by omega)) hClo
  have hnp : n ≤ p := by
    rcases Nat.lt_or_ge p n with h | h
    · exfalso
      have h1 : 4294967296 ^ p ≤ 4294967296 ^ (n - 1) := Nat.pow_le_pow_right (by omega) (by omega)
      omega
    · exact h
  have hpn : 0 < 4294967296 ^ (n - 1) := Nat.pow_pos (by omega)
  have hsplit : 4294967296 ^ n = 4294967296 ^ (n - 1) * 4294967296 := by rw [← Nat.pow_succ]; congr 1; omega
  have hVl : C * 2 ^ s < 4294967296 ^ n := by
    have h1 : dig 4294967296 C (n - 1) = C / 4294967296 ^ (n - 1) := by
      unfold dig
      refine Nat.mod_eq_of_lt ((Nat.div_lt_iff_lt_mul hpn).2 ?_)
      rw [Nat.mul_comm, ← hsplit]; exact hCl
    rw [h1] at htop
    obtain ⟨t, ht⟩ : ∃ t, t = C / 4294967296 ^ (n - 1) := ⟨_, rfl⟩
    rw [← ht] at htop
    have h2 : C < (t + 1) * 4294967296 ^ (n - 1) := by
      have h3 := Nat.mod_add_div C (4294967296 ^ (n - 1))
      have h4 := Nat.mod_lt C hpn
      rw [← ht, Nat.mul_comm] at h3
      rw [Nat.add_mul, Nat.one_mul]
      omega
    have h3 : (t + 1) * 4294967296 ^ (n - 1) * 2 ^ s ≤ 2 ^ (32 - s) * 4294967296 ^ (n - 1) * 2 ^ s := Nat.mul_le_mul_right _ (Nat.mul_le_mul_right _ htop)
    have h4 : 2 ^ (32 - s) * 4294967296 ^ (n - 1) * 2 ^ s = 4294967296 ^ n := by
      rw [hsplit, Nat.mul_right_comm, ← Nat.pow_add, show 32 - s + s = 32 by omega, Nat.mul_comm]
    have h5 : C * 2 ^ s < (t + 1) * 4294967296 ^ (n - 1) * 2 ^ s := (Nat.mul_lt_mul_right hp2).2 h2
    omega
  have hVlo : 4294967296 ^ (n - 1) ≤ C * 2 ^ s := Nat.le_trans hClo (Nat.le_mul_of_pos_right _ hp2)
  have h2s : 2 ^ s < 4294967296 := by rw [show (4294967296 : Nat) = 2 ^ 32 by rfl]; exact Nat.pow_lt_pow_right (by omega) hs
  have hA2 : A * 2 ^ s < 4294967296 ^ (p + 1) := by rw [Nat.pow_succ]; exact Nat.mul_lt_mul'' hAl h2s
  refine ⟨?_, ?_, hA2, words_length (by omega) _ _ hA2, hnp, hVl, hVlo, hC0⟩
  · have h1 := words_length (B := 4294967296) (by omega) _ _ hVl
    have h2 := words_lenlt (B := 4294967296) (by omega) _ _ hVlo
    unfold wd
    omega
  · have h1 : 4294967296 ^ p = 4294967296 ^ (n - 1) * 4294967296 ^ (p + 1 - n) := by rw [← Nat.pow_add]; congr 1; omega
    have h2 : 4294967296 ^ (n - 1) * 4294967296 ^ (p + 1 - n) ≤ C * 4294967296 ^ (p + 1 - n) := Nat.mul_le_mul_right _ hClo
    rw [Nat.mul_right_comm]
    exact (Nat.mul_lt_mul_right hp2).2 (by omega)
/-- The numbers of a round: the divisor's two upper words, the dividend's two and the next, the word that is sought. -/
structure Rnd (V X k j v1 v2 top u2 q : Nat) : Prop where
  hV0 : 0 < V
  low : v1 * 4294967296 ^ (k + 1) ≤ V
  pos : 0 < v1
  v1B : v1 < 4294967296
  v2B : v2 < 4294967296
  hV : V / 4294967296 ^ k = v1 * 4294967296 + v2
  hU : X / 4294967296 ^ j / 4294967296 ^ k = top * 4294967296 + u2
  htop : top = X / 4294967296 ^ j / 4294967296 ^ (k + 1)
  topB : top < (v1 + 1) * 4294967296
  top64 : top < 18446744073709551616
  u2B : u2 < 4294967296
  hq : q = X / 4294967296 ^ j / V
  qB : q < 4294967296
theorem rnd_of (V X k j : Nat) (hVl : V < 4294967296 ^ (k + 2)) (hVlo : 4294967296 ^ (k + 1) ≤ V) (hX : X < V * 4294967296 ^ (j + 1)) :
    Rnd V X k j (dig 4294967296 V (k + 1)) (dig 4294967296 V k) (dig 4294967296 X (j + (k + 2)) * 4294967296 + dig 4294967296 X (j + (k + 1))) (dig 4294967296 X (j + k)) (X / 4294967296 ^ j / V) := by
  have hB : 0 < 4294967296 := by omega
  have hV0 : 0 < V := Nat.lt_of_lt_of_le (Nat.pow_pos hB) hVlo
  have hj : 0 < 4294967296 ^ j := Nat.pow_pos hB
  have hk : 0 < 4294967296 ^ k := Nat.pow_pos hB
  have hk1 : 0 < 4294967296 ^ (k + 1) := Nat.pow_pos hB
  have hd1 : dig 4294967296 V (k + 1) = V / 4294967296 ^ (k + 1) := by
    unfold dig
    refine Nat.mod_eq_of_lt ((Nat.div_lt_iff_lt_mul hk1).2 ?_)
    rw [Nat.mul_comm, ← Nat.pow_succ]; exact hVl
  have hXl : X < 4294967296 ^ (j + k + 1 + 2) := by
    refine Nat.lt_of_lt_of_le hX ?_
    rw [show j + k + 1 + 2 = (k + 2) + (j + 1) by omega, Nat.pow_add 4294967296 (k + 2)]
    exact Nat.mul_le_mul_right _ (Nat.le_of_lt hVl)
  have hUV : X / 4294967296 ^ j < V * 4294967296 := (Nat.div_lt_iff_lt_mul hj).2 (by rw [Nat.mul_assoc, Nat.mul_comm 4294967296, ← Nat.pow_succ]; exact hX)
  have htop : dig 4294967296 X (j + (k + 2)) * 4294967296 + dig 4294967296 X (j + (k + 1)) = X / 4294967296 ^ j / 4294967296 ^ (k + 1) := by
    rw [Nat.div_div_eq_div_mul, ← Nat.pow_add, show j + (k + 2) = j + (k + 1) + 1 by omega]
    exact (top_two (k := j + (k + 1)) hB (by rw [show j + (k + 1) + 2 = j + k + 1 + 2 by omega]; exact hXl)).symm
  have hx1 := dig_lt hB X (j + (k + 2))
  have hx2 := dig_lt hB X (j + (k + 1))
  have hx3 := dig_lt hB X (j + k)
  have hv1 := dig_lt hB V (k + 1)
  have hv2 := dig_lt hB V k
  have hlow : dig 4294967296 V (k + 1) * 4294967296 ^ (k + 1) ≤ V := by rw [hd1]; exact Nat.div_mul_le_self _ _
  have hhigh : V < (dig 4294967296 V (k + 1) + 1) * 4294967296 ^ (k + 1) := by
    have h3 := Nat.mod_add_div V (4294967296 ^ (k + 1))
    have h4 := Nat.mod_lt V hk1
    rw [Nat.mul_comm] at h3
    rw [hd1, Nat.add_mul, Nat.one_mul]
    omega
  refine ⟨hV0, hlow, ?_, hv1, hv2, top_two hB hVl, ?_, htop, ?_, by omega, hx3, rfl, (Nat.div_lt_iff_lt_mul hV0).2 (by rw [Nat.mul_comm]; exact hUV)⟩
  · rw [hd1]; exact Nat.div_pos hVlo hk1
  · have h1 : X / 4294967296 ^ j / 4294967296 ^ k = X / 4294967296 ^ (j + k) := by rw [Nat.div_div_eq_div_mul, ← Nat.pow_add]
    have h2 : X / 4294967296 ^ (j + (k + 1)) = X / 4294967296 ^ (j + k) / 4294967296 := by rw [← Nat.add_assoc, Nat.pow_succ, Nat.div_div_eq_div_mul]
    rw [htop, Nat.div_div_eq_div_mul _ _ (4294967296 ^ (k + 1)), ← Nat.pow_add, h2, h1]
    unfold dig
    have := Nat.mod_add_div (X / 4294967296 ^ (j + k)) 4294967296
    rw [Nat.mul_comm] at this
    omega
  · rw [htop]
    refine (Nat.div_lt_iff_lt_mul hk1).2 ?_
    have h5 : V * 4294967296 ≤ (dig 4294967296 V (k + 1) + 1) * 4294967296 ^ (k + 1) * 4294967296 := Nat.mul_le_mul_right _ (Nat.le_of_lt hhigh)
    rw [Nat.mul_right_comm] at h5
    omega
theorem Rnd.ge {V X k j v1 v2 top u2 q : Nat} (h : Rnd V X k j v1 v2 top u2 q) : q ≤ top / v1 := by
  rw [h.hq]
  exact guess_ge (B := 4294967296) h.low h.htop (by omega) h.pos
theorem Rnd.down {V X k j v1 v2 top u2 q g r : Nat} (h : Rnd V X k j v1 v2 top u2 q) (hg : g * v1 + r = top) (hq : q ≤ g) (ht : 4294967296 ≤ g ∨ r * 4294967296 + u2 < g * v2) : q < g := by
  rcases ht with ht | ht
  · have := h.qB; omega
  · have h1 := guess_gt (B := 4294967296) (V := V) (U := X / 4294967296 ^ j) (n := k) (g := g) (by omega) h.hV h.hU (by omega) (by rw [show top - g * v1 = r by omega]; exact ht)
    rw [h.hq]; exact h1
theorem Rnd.fin {V X k j v1 v2 top u2 q g r : Nat} (h : Rnd V X k j v1 v2 top u2 q) (hg : g * v1 + r = top) (hgB : g < 4294967296) (ht : ¬ r * 4294967296 + u2 < g * v2) : g ≤ q + 1 := by
  have h1 := guess_le (B := 4294967296) (V := V) (U := X / 4294967296 ^ j) (n := k) (g := g) (by omega) h.hV0 h.hV h.hU h.pos hgB (by omega) (by rw [show top - g * v1 = r by omega]; omega)
  rw [h.hq]; exact h1
theorem Rnd.fin2 {V X k j v1 v2 top u2 q g r : Nat} (h : Rnd V X k j v1 v2 top u2 q) (hg : g * v1 + r = top) (hr : 4294967296 ≤ r) : g < 4294967296 ∧ g ≤ q + 1 := by
  obtain ⟨h1, h2⟩ := guess_rest (B := 4294967296) (v1 := v1) (v2 := v2) (top := top) (u2 := u2) (g := g) h.pos h.v2B h.topB (by omega) (by omega)
  rw [show top - g * v1 = r by omega] at h2
  exact ⟨h1, h.fin hg h1 (by omega)⟩
/-- The rows of the division in memory: the dividend's, whose number is T; the quotient's. -/
def DSt (W2 w : World) (gU L cU gq m T : Nat) (f : Nat → Nat) : Prop :=
  w.owns W2.heap.size 22 1 (.slice (some ⟨gU, 0, none⟩) L cU) L (((List.range L).map (dig 4294967296 T)).map u32V) ∧
  w.heap[gq]? = some (.cells (rowF f m) 22) ∧ Below W2.heap.size W2 w ∧ gq ≠ gU ∧ W2.heap.size ≤ gq
theorem DSt.cell {W2 w : World} {gU L cU gq m T : Nat} {f : Nat → Nat} (h : DSt W2 w gU L cU gq m T f) (k : Nat) (hk : k < L) :
    w.cell? ⟨gU, k, none⟩ = some (.int .u32 (dig 4294967296 T k : Int)) ∧ w.frozen? ⟨gU, k, none⟩ = false :=
  ⟨h.1.cell k _ (by simp [u32V, hk]), owns_fz h.1 k hk⟩
theorem DSt.set {W2 w : World} {gU L cU gq m T : Nat} {f : Nat → Nat} (h : DSt W2 w gU L cU gq m T f) (k y : Nat) (hk : k < L) (hy : y < 4294967296) :
    DSt W2 (w.setCell ⟨gU, k, none⟩ (.int .u32 (y : Int))) gU L cU gq m (setDig 4294967296 T k y) f := by
  obtain ⟨h1, h2, h3, h4, h5⟩ := h
  have hlt := (h1.lt gU rfl).1
  refine ⟨?_, by rw [Below.heap_setCell _ _ _ _ h4]; exact h2, h3.setCell hlt _, h4, h5⟩
  have h6 := h1.setOwn k (.int .u32 (y : Int))
  have e : (((List.range L).map (dig 4294967296 T)).map u32V).set k (.int .u32 (y : Int)) = ((List.range L).map (dig 4294967296 (setDig 4294967296 T k y))).map u32V := by
    apply List.ext_getElem?
    intro i
    rcases Nat.lt_or_ge i L with hi | hi
    · by_cases hik : k = i
      · subst hik
        simp [hi, u32V, dig_setDig (show 0 < 4294967296 by omega) T k y hy]
      · simp [hi, u32V, List.getElem?_set, hik, dig_setDig (show 0 < 4294967296 by omega) T k y hy, Ne.symm hik]
    · rw [List.getElem?_eq_none (by simpa using hi), List.getElem?_eq_none (by simpa using hi)]
  rw [← e]; exact h6
theorem DSt.drew {W2 w : World} {gU L cU gq m T : Nat} {f : Nat → Nat} (h : DSt W2 w gU L cU gq m T f) : DSt W2 w.drew gU L cU gq m T f := ⟨h.1, h.2.1, h.2.2.1.drew, h.2.2.2⟩
theorem DSt.drewN {W2 w : World} {gU L cU gq m T : Nat} {f : Nat → Nat} (h : DSt W2 w gU L cU gq m T f) (n : Nat) : DSt W2 (w.drewN n) gU L cU gq m T f := ⟨h.1, h.2.1, below_drewN h.2.2.1 n, h.2.2.2⟩
theorem DSt.qcell {W2 w : World} {gU L cU gq m T : Nat} {f : Nat → Nat} (h : DSt W2 w gU L cU gq m T f) (k : Nat) (hk : k < m) :
    w.cell? ⟨gq, k, none⟩ = some (.int .u32 (f k : Int)) ∧ w.frozen? ⟨gq, k, none⟩ = false := rowF_cell h.2.1 k hk
theorem DSt.qset {W2 w : World} {gU L cU gq m T : Nat} {f f' : Nat → Nat} (h : DSt W2 w gU L cU gq m T f) (k : Nat) (hf : ∀ j, j < m → j ≠ k → f j = f' j) :
    DSt W2 (w.setCell ⟨gq, k, none⟩ (.int .u32 (f' k : Int))) gU L cU gq m T f' := by
  obtain ⟨h1, h2, h3, h4, h5⟩ := h
  exact ⟨h1.setCell_ne (by simp [Value.ownBlock]; exact Ne.symm h4) _, rowF_set h2 hf, h3.setCell h5 _, h4, h5⟩
end Go.Proofs.Ytkjlfjnncdkmlaa

/- Plain: long division by words: the words of a round, as the walk meets them. -/
namespace Go.Proofs.Ytkjlfjnncdkmlaa
set_option linter.all false
open Go.RowKit Go.Shelf Go.WideNum
theorem and_lo32 (y : Nat) (hy : y < 18446744073709551616) : bits .and .u64 (y : Int) 4294967295 = ((y % 4294967296 : Nat) : Int) := by
  show IntKind.u64.wrap ((BitVec.ofInt 64 _ &&& BitVec.ofInt 64 _).toNat : Int) = _
  rw [BitVec.ofInt_natCast, show (4294967295 : Int) = ((4294967295 : Nat) : Int) by rfl, BitVec.ofInt_natCast, BitVec.toNat_and, BitVec.toNat_ofNat, BitVec.toNat_ofNat, Nat.mod_eq_of_lt (by omega), Nat.mod_eq_of_lt (by omega), show (4294967295 : Nat) = 2 ^ 32 - 1 by rfl, Nat.and_two_pow_sub_one_eq_mod, IntKind.wrap_u64]
  omega
theorem wrap_sub2' (x c y z d : Nat) (h : x + 4294967296 * d = y + c + z) (hd : d ≤ 1) (hz : z < 4294967296) :
    ∃ T : Int, IntKind.u64.wrap (IntKind.u64.wrap ((x : Int) - (c : Int)) - (y : Int)) = T ∧ T % 4294967296 = (z : Int) ∧ T / 9223372036854775808 = (d : Int) := by
  refine ⟨_, rfl, ?_, ?_⟩ <;> rw [IntKind.wrap_u64, IntKind.wrap_u64] <;> rcases (show d = 0 ∨ d = 1 by omega) with rfl | rfl <;> omega
/-- One word of a multiple is taken away. -/
theorem sub_words (g v c b x : Nat) (hg : g < 4294967296) (hv : v < 4294967296) (hc : c < 4294967296) (hb : b ≤ 1) (hx : x < 4294967296) :
    ∃ (M pw lo hi z d : Nat) (T : Int), g * v + c = hi * 4294967296 + lo ∧ hi < 4294967296 ∧ z < 4294967296 ∧ d ≤ 1 ∧ z + lo + b = x + d * 4294967296 ∧ M ≤ 18446744065119617025 ∧ pw = M + c ∧ lo < 4294967296 ∧
      IntKind.u64.wrap ((g : Int) * (v : Int)) = (M : Int) ∧ IntKind.u64.wrap ((M : Int) + (c : Int)) = (pw : Int) ∧ (pw : Int) / 4294967296 = (hi : Int) ∧ bits .and .u64 (pw : Int) 4294967295 = (lo : Int) ∧
      IntKind.u64.wrap (IntKind.u64.wrap ((x : Int) - (b : Int)) - (lo : Int)) = T ∧ T % 4294967296 = (z : Int) ∧ T / 9223372036854775808 = (d : Int) := by
  have h1 : g * v ≤ 4294967295 * 4294967295 := Nat.mul_le_mul (by omega) (by omega)
  obtain ⟨M, hM⟩ : ∃ M, M = g * v := ⟨_, rfl⟩
  rw [← hM] at h1 ⊢
  have hand := and_lo32 (M + c) (by omega)
  obtain ⟨lo, hlo⟩ : ∃ lo, lo = (M + c) % 4294967296 := ⟨_, rfl⟩
  obtain ⟨hi, hhi⟩ : ∃ hi, hi = (M + c) / 4294967296 := ⟨_, rfl⟩
  rw [← hlo] at hand
  have hMw : IntKind.u64.wrap ((g : Int) * (v : Int)) = (M : Int) := by
    rw [show ((g : Int) * (v : Int)) = (M : Int) by rw [hM]; simp, IntKind.wrap_u64]; omega
  by_cases h : lo + b ≤ x
  · obtain ⟨T, t1, t2, t3⟩ := wrap_sub2' x b lo (x - lo - b) 0 (by omega) (by omega) (by omega)
    exact ⟨M, M + c, lo, hi, x - lo - b, 0, T, by omega, by omega, by omega, by omega, by omega, h1, rfl, by omega, hMw, by rw [IntKind.wrap_u64]; omega, by omega, hand, t1, t2, t3⟩
  · obtain ⟨T, t1, t2, t3⟩ := wrap_sub2' x b lo (x + 4294967296 - lo - b) 1 (by omega) (by omega) (by omega)
    exact ⟨M, M + c, lo, hi, x + 4294967296 - lo - b, 1, T, by omega, by omega, by omega, by omega, by omega, h1, rfl, by omega, hMw, by rw [IntKind.wrap_u64]; omega, by omega, hand, t1, t2, t3⟩
/-- The last word. -/
theorem sub_lastW (c b x : Nat) (hc : c < 4294967296) (hb : b ≤ 1) (hx : x < 4294967296) :
    ∃ (z d : Nat) (T : Int), z < 4294967296 ∧ d ≤ 1 ∧ z + b + c = x + d * 4294967296 ∧
      IntKind.u64.wrap (IntKind.u64.wrap ((x : Int) - (b : Int)) - (c : Int)) = T ∧ T % 4294967296 = (z : Int) ∧ T / 9223372036854775808 = (d : Int) := by
  by_cases h : c + b ≤ x
  · obtain ⟨T, t1, t2, t3⟩ := wrap_sub2' x b c (x - c - b) 0 (by omega) (by omega) (by omega)
    exact ⟨x - c - b, 0, T, by omega, by omega, by omega, t1, t2, t3⟩
  · obtain ⟨T, t1, t2, t3⟩ := wrap_sub2' x b c (x + 4294967296 - c - b) 1 (by omega) (by omega) (by omega)
    exact ⟨x + 4294967296 - c - b, 1, T, by omega, by omega, by omega, t1, t2, t3⟩
/-- What the multiple leaves, once it is taken away whole. -/
theorem sub_end {D V X g j n T b c y d : Nat} (hV0 : 0 < V) (hVn : V < 4294967296 ^ n) (hX : X < V * 4294967296 ^ (j + 1)) (hq1 : X / 4294967296 ^ j / V = dig 4294967296 (D / V) j) (hq2 : X - X / 4294967296 ^ j / V * V * 4294967296 ^ j = D % (V * 4294967296 ^ j))
    (h : SubSt 4294967296 V X g j n T b c) (hg1 : X / 4294967296 ^ j / V ≤ g) (hg2 : g ≤ X / 4294967296 ^ j / V + 1) (hy : y < 4294967296) (hd : d ≤ 1) (hst : y + b + c = dig 4294967296 X (n + j) + d * 4294967296) :
    (d = 0 → g = dig 4294967296 (D / V) j ∧ setDig 4294967296 T (n + j) y = D % (V * 4294967296 ^ j)) ∧
    (d = 1 → g = dig 4294967296 (D / V) j + 1 ∧ setDig 4294967296 T (n + j) y + V * 4294967296 ^ j = D % (V * 4294967296 ^ j) + 4294967296 ^ (n + j + 1) ∧ (∀ k, n + j + 1 ≤ k → dig 4294967296 (setDig 4294967296 T (n + j) y) k = 0)) := by
  have hl := h.last (by omega) hVn hV0 hX hg1 hg2 hy hd hst
  rw [hq1] at hl hq2
  rcases hl with ⟨rfl, h1, h2⟩ | ⟨rfl, h1, h2, h3⟩
  · exact ⟨fun _ => ⟨h1, by rw [h2, hq2]⟩, fun h => by omega⟩
  · refine ⟨fun h => by omega, fun _ => ⟨h1, ?_, h3⟩⟩
    have hqX : X / 4294967296 ^ j / V * V * 4294967296 ^ j ≤ X := Nat.le_trans (Nat.mul_le_mul_right _ (Nat.div_mul_le_self _ _)) (Nat.div_mul_le_self _ _)
    rw [hq1] at hqX
    rw [h1, Nat.add_mul, Nat.one_mul, Nat.add_mul] at h2
    generalize dig 4294967296 (D / V) j * V * 4294967296 ^ j = F at *
    omega
/-- One word of the divisor is added again. -/
theorem add_words (c u v : Nat) (hc : c ≤ 1) (hu : u < 4294967296) (hv : v < 4294967296) :
    ∃ t s z d : Nat, t = u + v ∧ s = c + t ∧ z < 4294967296 ∧ d ≤ 1 ∧ c + (u + v) = z + d * 4294967296 ∧ s ≤ 8589934591 ∧ (u : Int) + (v : Int) = (t : Int) ∧ (c : Int) + (t : Int) = (s : Int) ∧ (s : Int) % 4294967296 = (z : Int) ∧ (s : Int) / 4294967296 = (d : Int) := by
  exact ⟨u + v, c + (u + v), (c + (u + v)) % 4294967296, (c + (u + v)) / 4294967296, rfl, rfl, by omega, by omega, by omega, by omega, by omega, by omega, by omega, by omega⟩
theorem q_upto (f : Nat → Nat) (j k : Nat) (h : k ≠ j) : (if j + 1 ≤ k then f k else 0) = (if j ≤ k then f k else 0) := by
  by_cases h1 : j ≤ k
  · rw [if_pos h1, if_pos (by omega)]
  · rw [if_neg h1, if_neg (by omega)]
theorem DSt.qend {W2 w : World} {gU L cU gq m T T' Q j g : Nat} (h : DSt W2 w gU L cU gq m T (fun i => if j + 1 ≤ i then dig 4294967296 Q i else 0)) (hT : T = T') (hg : g = dig 4294967296 Q j) :
    DSt W2 (w.setCell ⟨gq, j, none⟩ (.int .u32 (g : Int))) gU L cU gq m T' (fun i => if j ≤ i then dig 4294967296 Q i else 0) := by
  subst hT
  have e : g = (fun i => if j ≤ i then dig 4294967296 Q i else 0) j := by rw [hg]; exact (if_pos (Nat.le_refl j)).symm
  rw [e]
  exact h.qset (f' := fun i => if j ≤ i then dig 4294967296 Q i else 0) j (fun i _ hi => q_upto _ j i hi)
/-- The end of the division: what is read of the rows. -/
theorem DSt.fin {W2 w : World} {gU L cU gq m T n : Nat} {f : Nat → Nat} (h : DSt W2 w gU L cU gq m T f) (hT : T < 4294967296 ^ n) (hn : n ≤ L) (hL : L ≤ 100000) :
    ∃ R, (∀ W, Below w.heap.size w W → Calls Try.prog 115 #[.slice (some ⟨gU, 0, none⟩) n cU] W fun e w' => e = .returned (.slice (some ⟨gU, 0, none⟩) R cU) ∧ W = w') ∧
      (∀ W, Below w.heap.size w W → World.numR W (.slice (some ⟨gU, 0, none⟩) R cU) T) := by
  obtain ⟨l, hl⟩ : ∃ l, l = (List.range n).map (dig 4294967296 T) := ⟨_, rfl⟩
  have h1 := World.owns.takeR h.1 hn (by simp)
  have e1 : (((List.range L).map (dig 4294967296 T)).map u32V).take n = l.map u32V := by
    rw [hl, ← List.map_take, ← List.map_take, List.take_range, Nat.min_eq_left hn]
  rw [e1] at h1
  have hll : l.length = n := by rw [hl]; simp
  have h2 := World.owns.takeR h1 (show (trimL l).length ≤ n by have := trimL_len l; omega) (by simp)
  rw [← List.map_take, trimL_take] at h2
  have hw : trimL l = wd T := by rw [hl]; exact range_wd T n hT
  have hc2 : n ≤ cU := by
    rcases h1.2 with ⟨h0, -⟩ | ⟨g, cap, cur, fz, e, hb, hg, hf, hc, -⟩
    · cases h0
    · injection e with _ _ e3; omega
  rw [hw] at h2
  refine ⟨(trimL l).length, fun W hW => ?_, fun W hW => ?_⟩
  · refine norm_list l _ n rfl hll.symm _ cU (by omega) hc2 W (fun k x hk => ⟨gU, 0, rfl, ?_⟩)
    rcases Nat.lt_or_ge k n with hkn | hkn
    · have h3 := (h.cell k (by omega)).1
      have hk2 : x = dig 4294967296 T k := by
        rw [hl, List.getElem?_map, List.getElem?_range hkn] at hk
        injection hk with hk
        exact hk.symm
      rw [hk2, Nat.zero_add]
      have hlt := (h.1.lt gU rfl).2
      exact (hW.cell (p := ⟨gU, k, none⟩) hlt).trans h3
    · rw [List.getElem?_eq_none (by omega)] at hk
      cases hk
  · rw [hw]
    have h5 : World.numR w (.slice (some ⟨gU, 0, none⟩) (wd T).length cU) T := h2.reads
    exact numR_below h5 hW
theorem DSt.finQ {W2 w : World} {gU L cU gq m T Q : Nat} (h : DSt W2 w gU L cU gq m T (dig 4294967296 Q)) (hQ : Q < 4294967296 ^ m) (hm : m ≤ 100000) :
    ∃ R, (∀ W, Below w.heap.size w W → Calls Try.prog 115 #[.slice (some ⟨gq, 0, none⟩) m m] W fun e w' => e = .returned (.slice (some ⟨gq, 0, none⟩) R m) ∧ W = w') ∧
      (∀ W, Below w.heap.size w W → World.numR W (.slice (some ⟨gq, 0, none⟩) R m) Q) := by
  obtain ⟨R, HR⟩ : ∃ R, Hid (R = (trimL ((List.range m).map (dig 4294967296 Q))).length) := ⟨_, rfl⟩
  have hlt : gq < w.heap.size := (Array.getElem?_eq_some_iff.1 h.2.1).1
  refine ⟨R, fun W hW => norm_rowF _ _ _ R HR W _ ((hW.block _ hlt).trans h.2.1) hm, fun W hW => ?_⟩
  have h1 := (num_retF (w := W2) HR h.2.1 h.2.2.1 h.2.2.2.2 hm hQ).numR
  exact numR_below h1 hW
end Go.Proofs.Ytkjlfjnncdkmlaa

/- Walks: the long division. -/
namespace Go.Proofs.Ytkjlfjnncdkmlaa
set_option linter.all false
open Go.RowKit Go.Shelf Go.WideNum
theorem owns_slice {W : World} {base n : Nat} {T : TypeId} {v : Value} {xs : List Value} (h : W.owns base T 1 v n xs) (hn : 0 < n) : ∃ g cap, v = .slice (some ⟨g, 0, none⟩) n cap ∧ n ≤ cap ∧ cap ≤ maxLen := by
  rcases h.2 with ⟨_, h0⟩ | ⟨g, cap, cur, fz, rfl, hb, hg, hf, hc, hm, _⟩
  · omega
  · exact ⟨g, cap, rfl, hc, hm⟩
theorem top_ne (C n : Nat) (hn : (wd C).length = n + 1) : dig 4294967296 C n ≠ 0 := by
  have h4 := words_trimmed (B := 4294967296) (by omega) C C (Nat.le_refl _)
  have h5 : (words 4294967296 C).getLast? = some (dig 4294967296 C n) := by
    rw [List.getLast?_eq_getElem?]
    unfold wd at hn
    rw [hn, Nat.add_sub_cancel]
    exact words_getE (by omega) C n (by omega)
  exact h4 _ h5
set_option maxRecDepth 100000 in
set_option maxHeartbeats 16000000 in
theorem divide_big (A C : Nat) (hC32 : 4294967296 ≤ C) (hAC : C ≤ A) (hla : (wd A).length ≤ 2000) : DivOK A C := by
  intro va vb w hA hC
  obtain ⟨HPOST, hpost⟩ : ∃ R, R = DivRet w A C := ⟨_, rfl⟩
  rw [← hpost]
  have HP := Lib.hid hpost
  have HA : Hid (World.numR w va A) := hA
  have HC : Hid (World.numR w vb C) := hC
  clear hpost
  have hlc : (wd C).length ≤ 2000 := wd_len_le2 hAC hla
  have hcmp := compare_num A C _ _ w hA hC hla hlc
  obtain ⟨aa, ca, rfl, -, -, -⟩ := reads_u32 hA
  obtain ⟨ab, cb, rfl, -, -, hsb⟩ := reads_u32 hC
  clear hA hC
  have hn2 : 1 < (wd C).length := words_lenlt (B := 4294967296) (by omega) C 1 (by omega)
  obtain ⟨k, hk⟩ : ∃ k, (wd C).length = k + 2 := ⟨(wd C).length - 2, by omega⟩
  obtain ⟨b, off, rfl, hbl, hx0⟩ := hsb (k + 1) _ (wd_get C (k + 1) (by omega))
  have hxn := top_ne C (k + 1) hk
  have hx32 := wd_dig C (k + 1)
  obtain ⟨x, ex⟩ : ∃ x, x = dig 4294967296 C (k + 1) := ⟨_, rfl⟩
  obtain ⟨b1, b2, b3⟩ := bitLen_spec x (by omega)
  have hbl0 : Lib.bitLen x ≠ 0 := fun h => by rw [h] at b1; omega
  obtain ⟨s, hs⟩ : ∃ s, s = 32 - Lib.bitLen x := ⟨_, rfl⟩
  have hs32 : s < 32 := by omega
  have hlz := fun W => lz_any x W (by omega)
  rw [← hs] at hlz
  have HLZ : Hid (∀ W, Calls Try.prog 116 #[.int .u32 (x : Int)] W fun e w' => e = .returned (.int .i64 (s : Int)) ∧ W = w') := hlz
  obtain ⟨p, hp⟩ : ∃ p, p = (wd A).length := ⟨_, rfl⟩
  obtain ⟨n, hn⟩ : ∃ n, n = (wd C).length := ⟨_, rfl⟩
  have hnk : n = k + 2 := by rw [hn, hk]
  obtain ⟨f1, f2, f3, f4, f5, f6, f7, f8⟩ := norm_facts A C s n p hn hp hAC (by omega) hs32 (by rw [show n - 1 = k + 1 by omega, ← ex, show 32 - s = Lib.bitLen x by omega]; exact b1)
  have hLCo : Hid (∀ W, World.numR W (.slice (some ⟨b, off, none⟩) n cb) C → Calls Try.prog 123 #[.slice (some ⟨b, off, none⟩) n cb, .int .i64 (s : Int)] W (NumRet W (C * 2 ^ s))) := fun W h => left_num C s (by omega) _ W h hlc _ rfl
  have hLAo : Hid (∀ W, World.numR W (.slice aa p ca) A → Calls Try.prog 123 #[.slice aa p ca, .int .i64 (s : Int)] W (NumRet W (A * 2 ^ s))) := fun W h => left_num A s (by omega) _ W h hla _ rfl
  have hpos2 : 0 < 2 ^ s := Nat.pow_pos (by omega)
  have hdivq : A * 2 ^ s / (C * 2 ^ s) = A / C := Nat.mul_div_mul_right _ _ hpos2
  have hmodq : A * 2 ^ s % (C * 2 ^ s) = A % C * 2 ^ s := Nat.mul_mod_mul_right _ _ _
  have hLaA : p ≤ (wd (A * 2 ^ s)).length := by
    rw [hp]; exact wd_len_le2 (Nat.le_mul_of_pos_right A hpos2) (Nat.le_refl _)
  obtain ⟨V, hV⟩ : ∃ V, V = C * 2 ^ s := ⟨_, rfl⟩
  obtain ⟨D, hD⟩ : ∃ D, D = A * 2 ^ s := ⟨_, rfl⟩
  rw [← hV] at f1 f2 f6 f7 hLCo hdivq hmodq
  rw [← hD] at f2 f3 f4 hLAo hdivq hmodq hLaA
  obtain ⟨m, hm⟩ : ∃ m, m = p + 1 - n := ⟨_, rfl⟩
  rw [← hm] at f2
  obtain ⟨R, hR⟩ : ∃ R, R = cmpN A C := ⟨_, rfl⟩
  rw [← hR] at hcmp
  have hR0 : ¬ R < 0 := by
    rw [hR, cmpN, if_neg (by omega)]
    split <;> omega
  rw [← ex] at hx0
  rw [← hn, ← hp] at hcmp ⊢
  rw [← hn] at HC hlc
  rw [← hp] at HA hla
  have HCMP := Lib.hid hcmp
  have HV1 := Lib.hid f1
  have HDV := Lib.hid f2
  have HDL := Lib.hid f3
  have HDLen := Lib.hid f4
  have HVB := Lib.hid f6
  have HVlo : Hid (4294967296 ^ (k + 1) ≤ V) := by rw [show k + 1 = n - 1 by omega]; exact f7
  have HQ := Lib.hid hdivq
  have HM := Lib.hid hmodq
  have HLaA := Lib.hid hLaA
  have HZD := Lib.hid (zeros_app D)
  have hn1 : (n : Int) - 1 = ((k + 1 : Nat) : Int) := by omega
  have hnne : ¬ (n : Int) = 1 := by omega
  have hki : ((k + 1 : Nat) : Int) < (n : Int) := by omega
  have hkp : (0 : Int) ≤ ((k + 1 : Nat) : Int) := by omega
  have hmI : (p : Int) + 1 - (n : Int) = (m : Int) := by omega
  have hm1 : 1 ≤ m := by omega
  have hm2 : m ≤ 2001 := by omega
  have HKN := Lib.hid hnk
  have hpp1 : m + n = p + 1 := by omega
  have HMN := Lib.hid hpp1
  clear hcmp f1 f2 f3 f4 f6 f7 hdivq hmodq hLaA hsb hR hV hD hm hxn hx32 ex b1 b2 b3 hbl0 hs hlz hpos2 hn hp hk hn2 hpp1 hnk
  go_enter Try.func130, Try.ntmps130
  go_wp2_with fail
  (with_reducible refine (HCMP.out).mono ?_)
  rintro e w1 ⟨rfl, n1, rfl⟩
  have hx : (w.drewN n1).cell? ⟨b, off + (k + 1), none⟩ = some (.int .u32 (x : Int)) := hx0
  clear hx0
  go_wp2_with fail
  (with_reducible refine (HLZ.out _).mono ?_)
  rintro e w2 ⟨rfl, rfl⟩
  have HC1 : Hid (World.numR (w.drewN n1) (.slice (some ⟨b, off, none⟩) n cb) C) := numR_drewN HC.out n1
  have HA1 : Hid (World.numR (w.drewN n1) (.slice aa p ca) A) := numR_drewN HA.out n1
  have HB1 : Hid (Below w.heap.size w (w.drewN n1)) := below_drewN (Below.refl _ _) n1
  clear hx
  generalize w.drewN n1 = w2 at HC1 HA1 HB1 ⊢
  go_wp2_with fail
  (with_reducible refine (hLCo.out _ HC1.out).mono ?_)
  rintro e w3 ⟨v3, rfl, ho3, hb3⟩
  rw [HV1.out] at ho3
  obtain ⟨gV, cV, rfl, hcV, hcVm⟩ := owns_slice ho3 (by have := HKN.out; omega)
  have HVC : Hid (∀ i, i < n → w3.cell? ⟨gV, i, none⟩ = some (.int .u32 (dig 4294967296 V i : Int))) := fun i hi => ho3.cell i _ (by
    have := wd_get V i (by rw [HV1.out]; exact hi)
    rw [List.getElem?_map, this]; rfl)
  have HVlt : Hid (gV < w3.heap.size) := (ho3.lt gV rfl).2
  have HA3 := Lib.hid (numR_below HA1.out hb3)
  have HB3 := Lib.hid (HB1.out.trans (hb3.mono HB1.out.size))
  clear hb3 ho3
  go_wp2_with fail
  (with_reducible refine (hLAo.out _ HA3.out).mono ?_)
  rintro e w4 ⟨v4, rfl, ho4, hb4⟩
  obtain ⟨La, hLa⟩ : ∃ L, L = (wd D).length := ⟨_, rfl⟩
  rw [← hLa] at ho4 HLaA HDLen HZD
  have hLa1 : 0 < La := by have := HLaA.out; have := HMN.out; have := HKN.out; omega
  clear hLa
  obtain ⟨g4, c4, rfl, -, -⟩ := owns_slice ho4 hLa1
  have hLap := HLaA.out
  have hLap2 := HDLen.out
  have HO4 := Lib.hid (ho4.alloc (.cells #[.int .u32 0, .int .u32 0] 22))
  have hz34 : w3.heap.size ≤ (w4.alloc (.cells #[.int .u32 0, .int .u32 0] 22)).heap.size := by have := hb4.size; simp; omega
  have HZ34 := Lib.hid hz34
  have HBX : Hid (∀ w5 : World, World.grownBy (w4.alloc (.cells #[.int .u32 0, .int .u32 0] 22)) w5 (Value.slice (some ⟨g4, 0, none⟩) La c4).ownBlock → Below w3.heap.size w3 w5) := fun w5 hg => (hb4.trans (((Below.refl w4.heap.size w4).alloc (Nat.le_refl _) (.cells #[.int .u32 0, .int .u32 0] 22)).mono hb4.size)).trans (below_grown HO4.out hg w3.heap.size (Nat.le_refl _) HZ34.out)
  obtain ⟨i0, hi0, hiz, hiz1, hizb⟩ := info_parts infoU32
  clear ho4 hb4 hz34
  have hLa3 : La ≤ 2001 := by omega
  have hmk : ∀ W : World, (Instr.makeSlice 117 (.int .i64 (m : Int)) (.int .i64 (m : Int))).run Try.prog W = .ok (.slice (some ⟨W.heap.size, 0, none⟩) m m) (W.alloc (.cells (zrow m) 22)) := fun W => make_nat m (by omega) W
  go_wp2_with (at_builtin; refine wpList_append_owns _ rfl (.tmp 56) (.tmp 57) 117 rfl w3.heap.size 22 i0 (.int .u32 0) 1 4 Try.underlying117 hi0 hiz hiz1 hizb rfl (by decide) (.slice (some ⟨g4, 0, none⟩) La c4) La _ rfl HO4.out ⟨w4.heap.size, 0, none⟩ 2 2 [.int .u32 0, .int .u32 0] rfl rfl (news_alloc w4 [.int .u32 0, .int .u32 0] 22) (by simp [Value.oneCell']) (by unfold maxLen; omega) (by omega) HZ34.out ?_; intro v5 w5 hown5 hg5 _; have HO5 := Lib.hid hown5; have HB5 := Lib.hid (HBX.out _ hg5); obtain ⟨gU, cU, rfl, hcU, hcUm⟩ := owns_slice hown5 (by omega); clear hown5 hg5; have hpcU : (p : Int) + 1 ≤ (cU : Int) := by omega)
  have hgU5 : gU < w5.heap.size := (HO5.out.lt gU rfl).2
  have h35 := HB5.out.size
  have hds : DSt w3 (w5.alloc (.cells (zrow m) 22)) gU (p + 1) cU w5.heap.size m (D % (V * 4294967296 ^ m)) (fun i => if m ≤ i then dig 4294967296 (D / V) i else 0) := by
    refine ⟨?_, ?_, HB5.out.alloc h35 _, by omega, h35⟩
    · have h1 := (World.owns.takeR HO5.out (show p + 1 ≤ La + 2 by omega) (by simp)).alloc (.cells (zrow m) 22)
      rw [HZD.out] at h1
      rw [Nat.mod_eq_of_lt HDV.out]
      simpa [← List.map_take, List.take_range, Nat.min_eq_left (show p + 1 ≤ La + 2 by omega)] using h1
    · rw [rowF_congr (f' := fun _ => 0) (fun j hj => if_neg (by omega)), rowF_zero]
      exact heap_alloc_new w5 _
  obtain ⟨gq, hgq⟩ : ∃ g, g = w5.heap.size := ⟨_, rfl⟩
  rw [← hgq] at hds ⊢
  have HDS := Lib.hid hds
  have HPC : Hid (p + 1 ≤ cU) := by show _ ≤ _; omega
  clear hds HO4 HZ34 HBX HO5 HB5 hgU5 h35 hgq hi0 hiz hiz1 hizb hmk HZD HLaA hLap hLap2 HDLen hpcU
  generalize w5.alloc (.cells (zrow m) 22) = w6 at HDS ⊢
  obtain ⟨k1, hk1⟩ : ∃ z, z = k + 1 := ⟨_, rfl⟩
  clear hn1 hki hkp
  have hn1 : (n : Int) - 1 = (k1 : Int) := by have := HKN.out; omega
  have hn2 : (n : Int) - 2 = (k : Int) := by have := HKN.out; omega
  have HK1 := Lib.hid hk1
  clear hk1
  go_loopw [13] (fun jv wr => ∃ kk : Nat, kk ≤ m ∧ jv = .int .i64 ((kk : Int) - 1) ∧ Hid (DSt w3 wr gU (p + 1) cU gq m (D % (V * 4294967296 ^ kk)) (fun i => if kk ≤ i then dig 4294967296 (D / V) i else 0))) (fun jv _ => (intOf jv + 1).toNat)
  case atStart => exact ⟨m, Nat.le_refl _, rfl, HDS.out⟩
  case round =>
    obtain ⟨kk, hkk, rfl, hS⟩ := hrel
    cases kk with
    | zero =>
      rw [Nat.pow_zero, Nat.mul_one, HM.out] at hS
      have hf : (fun i => if 0 ≤ i then dig 4294967296 (D / V) i else 0) = dig 4294967296 (A / C) := by
        funext i
        rw [if_pos (Nat.zero_le i), HQ.out]
      rw [hf] at hS
      have hV0 : 0 < V := Nat.lt_of_lt_of_le (Nat.pow_pos (by omega)) HVlo.out
      have hT : A % C * 2 ^ s < 4294967296 ^ n := by
        rw [← HM.out]
        exact Nat.lt_trans (Nat.mod_lt _ hV0) HVB.out
      have hQl : A / C < 4294967296 ^ m := by
        rw [← HQ.out]
        exact (Nat.div_lt_iff_lt_mul hV0).2 (by rw [Nat.mul_comm]; exact HDV.out)
      have hkn := HKN.out
      have hmn := HMN.out
      have hncU : n ≤ cU := by have := HPC.out; omega
      obtain ⟨R1, hn1q, hr1q⟩ := hS.out.finQ hQl (by omega)
      obtain ⟨R2, hn2u, hr2u⟩ := hS.out.fin hT (show n ≤ p + 1 by omega) (by omega)
      have hrt : ∀ W, World.numR W (.slice (some ⟨gU, 0, none⟩) R2 cU) (A % C * 2 ^ s) → Calls Try.prog 132 #[.slice (some ⟨gU, 0, none⟩) R2 cU, .int .i64 (s : Int)] W (NumRet W (A % C * 2 ^ s / 2 ^ s)) := fun W hW => right_any _ s hs32 _ W hW (by
        have := words_length (B := 4294967296) (by omega) (A % C * 2 ^ s) n hT
        unfold wd
        omega)
      rw [Nat.mul_div_cancel _ (Nat.pow_pos (by omega))] at hrt
      have HN1 := Lib.hid hn1q
      have HN2 := Lib.hid hn2u
      have HR1 := Lib.hid hr1q
      have HR2 := Lib.hid hr2u
      have HRT := Lib.hid hrt
      have hb34 := hS.out.2.2.1
      have HBW := Lib.hid (HB3.out.trans (hb34.mono HB3.out.size))
      have hwr0 : Below wr.heap.size wr wr.drew := (Below.refl _ _).drew
      clear hf hV0 hT hQl hkn hmn hn1q hr1q hn2u hr2u hrt hb34 hS
      have h0 : ¬ (0 : Int) ≤ ((0 : Nat) : Int) - 1 := by omega
      go_wp2_with fail
      go_region_held3 (fun _ => True) (trivial)
        (first
          | (go_simp; go_at_call 115; (with_reducible refine (HN1.out _ hwr0).mono ?_); rintro e w5 ⟨rfl, rfl⟩)
          | (go_simp; go_at_call 115; (with_reducible refine (HN2.out _ hwr0).mono ?_); rintro e w5 ⟨rfl, rfl⟩)
          | (go_simp; go_at_call 132; (with_reducible refine (HRT.out _ (HR2.out _ hwr0)).mono ?_); rintro e w8 hr8; obtain ⟨v8, rfl, ho8, hb8⟩ := hr8; have H8 : Hid (NumRet wr.drew (A % C) (.returned v8) w8) := ⟨v8, rfl, ho8, hb8⟩; clear ho8 hb8))
      all_goals
        go_wp2
        rw [HP.out]
        exact ⟨_, _, rfl, HR1.out _ H8.out.belD, H8.out.numR, HBW.out.trans (H8.out.belD.mono HBW.out.size)⟩
    | succ j =>
      rw [show ((j + 1 : Nat) : Int) - 1 = (j : Int) by omega]
      obtain ⟨X, hX⟩ : ∃ X, X = D % (V * 4294967296 ^ (j + 1)) := ⟨_, rfl⟩
      have hV0 : 0 < V := Nat.lt_of_lt_of_le (Nat.pow_pos (by omega)) HVlo.out
      have hXl : X < V * 4294967296 ^ (j + 1) := by rw [hX]; exact Nat.mod_lt _ (Nat.mul_pos hV0 (Nat.pow_pos (by omega)))
      have hrnd := rnd_of V X k j (by rw [← HKN.out]; exact HVB.out) HVlo.out hXl
      rw [← hX] at hS
      obtain ⟨hq1, hq2⟩ := quot_word (B := 4294967296) (A := D) (V := V) (j := j) (by omega) hV0
      rw [← hX] at hq1 hq2
      have HXL := Lib.hid hXl
      have HQ1 := Lib.hid hq1
      have HQ2 := Lib.hid hq2
      clear hX hXl hq1 hq2
      have hmn := HMN.out
      have hkn := HKN.out
      have hk1 := HK1.out
      rw [← hk1] at hrnd
      obtain ⟨jn, ejn⟩ : ∃ z, z = j + n := ⟨_, rfl⟩
      obtain ⟨jm, ejm⟩ : ∃ z, z = j + k1 := ⟨_, rfl⟩
      obtain ⟨jk, ejk⟩ : ∃ z, z = j + k := ⟨_, rfl⟩
      obtain ⟨cy1, -⟩ := hS.out.cell jn (by omega)
      obtain ⟨cy0, -⟩ := hS.out.cell jm (by omega)
      obtain ⟨cy2, -⟩ := hS.out.cell jk (by omega)
      have hbel := hS.out.2.2.1
      have cv1 := (hbel.cell (p := ⟨gV, k1, none⟩) HVlt.out).trans (HVC.out k1 (by omega))
      have cv2 := (hbel.cell (p := ⟨gV, k, none⟩) HVlt.out).trans (HVC.out k (by omega))
      rw [show j + (k + 2) = jn by omega, ← ejm, ← ejk] at hrnd
      obtain ⟨q, hq⟩ : ∃ q, q = X / 4294967296 ^ j / V := ⟨_, rfl⟩
      have hy1 := dig_lt (B := 4294967296) (by omega) X jn
      have hy0 := dig_lt (B := 4294967296) (by omega) X jm
      obtain ⟨y1, ey1⟩ : ∃ y, y = dig 4294967296 X jn := ⟨_, rfl⟩
      obtain ⟨y0, ey0⟩ : ∃ y, y = dig 4294967296 X jm := ⟨_, rfl⟩
      obtain ⟨y2, ey2⟩ : ∃ y, y = dig 4294967296 X jk := ⟨_, rfl⟩
      obtain ⟨v1, ev1⟩ : ∃ y, y = dig 4294967296 V k1 := ⟨_, rfl⟩
      obtain ⟨v2, ev2⟩ : ∃ y, y = dig 4294967296 V k := ⟨_, rfl⟩
      rw [← hq] at hrnd
      have HQE := Lib.hid hq
      rw [← ey1, ← ey0, ← ey2, ← ev1, ← ev2] at hrnd
      rw [← ey1] at cy1 hy1
      rw [← ey0] at cy0 hy0
      rw [← ey2] at cy2
      rw [← ev1] at cv1
      rw [← ev2] at cv2
      obtain ⟨pp, epp⟩ : ∃ z, z = y1 * 4294967296 := ⟨_, rfl⟩
      obtain ⟨top, etop⟩ : ∃ z, z = pp + y0 := ⟨_, rfl⟩
      have hor : bits .or .u64 (pp : Int) (y0 : Int) = (top : Int) := by
        have := or_lo .u64 (Or.inl rfl) 32 y1 y0 (by omega) (by simp only [if_true]; omega)
        rw [show y1 * 2 ^ 32 = pp by rw [epp], ← etop] at this
        exact this
      rw [← epp, ← etop] at hrnd
      have hpv := hrnd.pos
      have hpb := hrnd.v1B
      have hpt := hrnd.top64
      have hpv2 := hrnd.v2B
      have hpu2 := hrnd.u2B
      have HRND := Lib.hid hrnd
      have HPT := Lib.hid hpt
      have u1 : IntKind.u64.wrap ((y1 : Int) * 4294967296) = (pp : Int) := by rw [IntKind.wrap_u64]; omega
      have u1' : IntKind.u64.wrap ((y1 : Int) * 2 ^ 32) = (pp : Int) := by rw [IntKind.wrap_u64]; omega
      have u2 : IntKind.u64.wrap (y1 : Int) = (y1 : Int) := by rw [IntKind.wrap_u64]; omega
      have u3 : IntKind.u64.wrap (y0 : Int) = (y0 : Int) := by rw [IntKind.wrap_u64]; omega
      have u4 : IntKind.u64.wrap (v1 : Int) = (v1 : Int) := by rw [IntKind.wrap_u64]; omega
      have i1 : (j : Int) + (n : Int) = (jn : Int) := by omega
      have i2 : (jn : Int) - 1 = (jm : Int) := by omega
      have i3 : (jn : Int) < (p : Int) + 1 := by omega
      have i4 : (jm : Int) < (p : Int) + 1 := by omega
      have i5 : (k1 : Int) < (n : Int) := by omega
      have i6 : (jn : Int) ≤ 4000 := by omega
      have i7 : IntKind.i64.wrap (jn : Int) = (jn : Int) := by rw [IntKind.wrap_i64]; omega
      have i8 : IntKind.i64.wrap (jm : Int) = (jm : Int) := by rw [IntKind.wrap_i64]; omega
      have i9 : IntKind.i64.wrap (k1 : Int) = (k1 : Int) := by rw [IntKind.wrap_i64]; omega
      have EJN := Lib.hid ejn
      have EJM := Lib.hid ejm
      have EJK := Lib.hid ejk
      have EY1 := Lib.hid ey1
      have EY2 := Lib.hid ey2
      have EV1 := Lib.hid ev1
      have EV2 := Lib.hid ev2
      clear ey1 ey0 ey2 ev1 ev2 epp etop hrnd hbel hq hkn hmn hpt hk1 ejn ejm ejk
      go_wp2_with fail
      go_step3
      go_upto_region 14 with (fail)
      go_quiet (fail)
      have hS1 : DSt w3 (wr.drewN nq) gU (p + 1) cU gq m X (fun i => if j + 1 ≤ i then dig 4294967296 (D / V) i else 0) := hS.out.drewN nq
      have cz1 : (wr.drewN nq).cell? ⟨gV, k1, none⟩ = some (.int .u32 (v1 : Int)) := cv1
      have cz2 : (wr.drewN nq).cell? ⟨gV, k, none⟩ = some (.int .u32 (v2 : Int)) := cv2
      have cy2' : (wr.drewN nq).cell? ⟨gU, jk, none⟩ = some (.int .u32 (y2 : Int)) := cy2
      clear hS cv1 cv2 cy2 cy1 cy0 hor u1 u1' u2 u3
      generalize wr.drewN nq = wa at hS1 cz1 cz2 cy2' ⊢
      have HS1 := Lib.hid hS1
      obtain ⟨g0, eg0⟩ : ∃ z, z = top / v1 := ⟨_, rfl⟩
      obtain ⟨r0, er0⟩ : ∃ z, z = top % v1 := ⟨_, rfl⟩
      have t1 : (top : Int) / (v1 : Int) = (g0 : Int) := by rw [eg0, Int.natCast_ediv]
      have t1' : (top : Int).tdiv (v1 : Int) = (g0 : Int) := by rw [Int.tdiv_eq_ediv_of_nonneg (by omega), t1]
      have t2 : (top : Int) % (v1 : Int) = (r0 : Int) := by rw [er0, Int.natCast_emod]
      have t2' : (top : Int).tmod (v1 : Int) = (r0 : Int) := by rw [Int.tmod_eq_emod_of_nonneg (by omega), t2]
      have hgr : g0 * v1 + r0 = top := by rw [eg0, er0, Nat.mul_comm]; exact Nat.div_add_mod top v1
      have hr0 : r0 < v1 := by rw [er0]; exact Nat.mod_lt _ hpv
      have hqg0 : q ≤ g0 := by rw [eg0]; exact HRND.out.ge
      have hg64 : g0 ≤ top := by rw [eg0]; exact Nat.div_le_self _ _
      have t3 : IntKind.u64.wrap (g0 : Int) = (g0 : Int) := by have := HPT.out; rw [IntKind.wrap_u64]; omega
      have hv1n : ¬ v1 = 0 := by omega
      have hv1I : ¬ (v1 : Int) = 0 := by omega
      have hv1b : ((v1 : Int) == 0) = false := by rw [beq_eq_false_iff_ne]; omega
      have HGR := Lib.hid hgr
      have HR0 := Lib.hid hr0
      have HQG0 := Lib.hid hqg0
      have HG64 := Lib.hid hg64
      clear hS1 eg0 er0 hgr hr0 hqg0 hg64
      go_upto_region 15 with (fail)
      go_quiet (fail)
      have hS2 : DSt w3 (wa.drewN nq) gU (p + 1) cU gq m X (fun i => if j + 1 ≤ i then dig 4294967296 (D / V) i else 0) := HS1.out.drewN nq
      have cz1' : (wa.drewN nq).cell? ⟨gV, k1, none⟩ = some (.int .u32 (v1 : Int)) := cz1
      have cz2' : (wa.drewN nq).cell? ⟨gV, k, none⟩ = some (.int .u32 (v2 : Int)) := cz2
      have cy3 : (wa.drewN nq).cell? ⟨gU, jk, none⟩ = some (.int .u32 (y2 : Int)) := cy2'
      clear HS1 cz1 cz2 cy2' t1 t1' t2 t2' hv1b
      generalize wa.drewN nq = wb at hS2 cz1' cz2' cy3 ⊢
      have HS2 := Lib.hid hS2
      clear hS2 cz1' cz2' cy3
      have j1 : (jn : Int) - 2 = (jk : Int) := by have := EJN.out; have := EJK.out; have := HKN.out; omega
      have j2 : IntKind.i64.wrap (jk : Int) = (jk : Int) := by have := EJK.out; rw [IntKind.wrap_i64]; omega
      have j3 : IntKind.i64.wrap (k : Int) = (k : Int) := by have := HKN.out; rw [IntKind.wrap_i64]; omega
      have j4 : (jk : Int) < (p : Int) + 1 := by have := EJN.out; have := EJK.out; have := HKN.out; omega
      have j5 : (k : Int) < (n : Int) := by have := HKN.out; omega
      have j6 : IntKind.u64.wrap (v2 : Int) = (v2 : Int) := by rw [IntKind.wrap_u64]; omega
      have j7 : IntKind.u64.wrap (y2 : Int) = (y2 : Int) := by rw [IntKind.wrap_u64]; omega
      go_wp2_with fail
      go_step3
      go_upto_block 2 with fail
      go_cut [15, 16] from 110 to 145 (fun gv rv wx => ∃ g r : Nat, gv = .int .u64 (g : Int) ∧ rv = .int .u64 (r : Int) ∧ Hid (q ≤ g ∧ g ≤ q + 1 ∧ g < 4294967296) ∧ Hid (DSt w3 wx gU (p + 1) cU gq m X (fun i => if j + 1 ≤ i then dig 4294967296 (D / V) i else 0)))
      case first =>
        go_wp2_with fail
        go_loopw [15, 16] (fun gv rv wr => ∃ g r : Nat, gv = .int .u64 (g : Int) ∧ rv = .int .u64 (r : Int) ∧ g * v1 + r = top ∧ r < 4294967296 ∧ q ≤ g ∧ Hid (DSt w3 wr gU (p + 1) cU gq m X (fun i => if j + 1 ≤ i then dig 4294967296 (D / V) i else 0))) (fun gv _ _ => (intOf gv).toNat)
        case atStart => exact ⟨g0, r0, rfl, rfl, HGR.out, by have := HR0.out; omega, HQG0.out, HS2.out⟩
        case round =>
          obtain ⟨g, r, rfl, rfl, hg, hrB, hqg, hS⟩ := hrel
          have hgt : g ≤ top := by
            have : g * 1 ≤ g * v1 := Nat.mul_le_mul_left g hpv
            omega
          have hpt := HPT.out
          obtain ⟨cy2, -⟩ := hS.out.cell jk (by omega)
          have hbel := hS.out.2.2.1
          have cv1 := (hbel.cell (p := ⟨gV, k1, none⟩) HVlt.out).trans (HVC.out k1 (by omega))
          have cv2 := (hbel.cell (p := ⟨gV, k, none⟩) HVlt.out).trans (HVC.out k (by omega))
          rw [← EY2.out] at cy2
          rw [← EV1.out] at cv1
          rw [← EV2.out] at cv2
          by_cases hgB : 4294967296 ≤ g
          · have hgI : (4294967296 : Int) ≤ (g : Int) := by omega
            have hgD : decide ((4294967296 : Int) ≤ (g : Int)) = true := decide_eq_true hgI
            have hqg := HRND.out.down hg hqg (.inl hgB)
            obtain ⟨g1, eg1⟩ : ∃ z, z = g - 1 := ⟨_, rfl⟩
            obtain ⟨r1, er1⟩ : ∃ z, z = r + v1 := ⟨_, rfl⟩
            have HG1 : Hid (g1 * v1 + r1 = top) := by
              show _ = _
              rw [eg1, er1, ← hg]
              obtain ⟨z, rfl⟩ : ∃ z, g = z + 1 := ⟨g - 1, by omega⟩
              rw [Nat.add_sub_cancel, Nat.add_mul]
              omega
            have HQ1G : Hid (q ≤ g1) := by show _ ≤ _; omega
            have u7 : IntKind.u64.wrap ((g : Int) - 1) = (g1 : Int) := by rw [IntKind.wrap_u64]; omega
            have u8 : IntKind.u64.wrap ((r : Int) + (v1 : Int)) = (r1 : Int) := by rw [IntKind.wrap_u64]; omega
            have hg1lt : g1 < g := by omega
            go_upto_region 16 with (fail)
            go_quiet (fail)
            have cv1x : (wr.drewN nq).cell? ⟨gV, k1, none⟩ = some (.int .u32 (v1 : Int)) := cv1
            have hSX := hS.out.drewN nq
            clear cv1 cv2 cy2 hS hbel
            generalize wr.drewN nq = wx at cv1x hSX ⊢
            have HSX := Lib.hid hSX
            clear hSX
            clear hg eg1 er1 hpt hgt hqg hgI hgD hgB
            by_cases hrb : 4294967296 ≤ r1
            · have hrI : (4294967296 : Int) ≤ (r1 : Int) := by omega
              have hrD : decide ((4294967296 : Int) ≤ (r1 : Int)) = true := decide_eq_true hrI
              have hfin := HRND.out.fin2 HG1.out hrb
              have HFIN := Lib.hid hfin
              clear hfin hrb
              go_wp2
              go_meet
              case rel => exact ⟨g1, r1, rfl, rfl, ⟨HQ1G.out, HFIN.out.2, HFIN.out.1⟩, HSX.out⟩
            · have hrI : ¬ (4294967296 : Int) ≤ (r1 : Int) := by omega
              have hrD : decide ((4294967296 : Int) ≤ (r1 : Int)) = false := decide_eq_false hrI
              go_wp2
              go_roundw
              case rel => exact ⟨g1, r1, rfl, rfl, HG1.out, by omega, HQ1G.out, HSX.out⟩
              case measure => simp [intOf]; omega
          · have hgI : ¬ (4294967296 : Int) ≤ (g : Int) := by omega
            have hgD : decide ((4294967296 : Int) ≤ (g : Int)) = false := decide_eq_false hgI
            have hP64 : g * v2 < 4294967296 * 4294967296 := Nat.mul_lt_mul'' (by omega) hpv2
            obtain ⟨P, eP⟩ : ∃ z, z = g * v2 := ⟨_, rfl⟩
            obtain ⟨rr, err⟩ : ∃ z, z = r * 4294967296 := ⟨_, rfl⟩
            obtain ⟨W, eW⟩ : ∃ z, z = rr + y2 := ⟨_, rfl⟩
            rw [← eP] at hP64
            have uP : IntKind.u64.wrap ((g : Int) * (v2 : Int)) = (P : Int) := by
              rw [show ((g : Int) * (v2 : Int)) = (P : Int) by rw [eP]; simp, IntKind.wrap_u64]; omega
            have uR : IntKind.u64.wrap ((r : Int) * 4294967296) = (rr : Int) := by rw [IntKind.wrap_u64]; omega
            have uR' : IntKind.u64.wrap ((r : Int) * 2 ^ 32) = (rr : Int) := by rw [IntKind.wrap_u64]; omega
            have hor : bits .or .u64 (rr : Int) (y2 : Int) = (W : Int) := by
              have := or_lo .u64 (Or.inl rfl) 32 r y2 hpu2 (by simp only [if_true]; omega)
              rw [show r * 2 ^ 32 = rr by rw [err], ← eW] at this
              exact this
            by_cases ht : W < P
            · have hPI : (W : Int) < (P : Int) := by omega
              have hPD : decide ((W : Int) < (P : Int)) = true := decide_eq_true hPI
              have hqg := HRND.out.down hg hqg (.inr (by rw [← eP, ← err, ← eW]; exact ht))
              obtain ⟨g1, eg1⟩ : ∃ z, z = g - 1 := ⟨_, rfl⟩
              obtain ⟨r1, er1⟩ : ∃ z, z = r + v1 := ⟨_, rfl⟩
              have HG1 : Hid (g1 * v1 + r1 = top) := by
                show _ = _
                rw [eg1, er1, ← hg]
                obtain ⟨z, rfl⟩ : ∃ z, g = z + 1 := ⟨g - 1, by omega⟩
                rw [Nat.add_sub_cancel, Nat.add_mul]
                omega
              have HQ1G : Hid (q ≤ g1) := by show _ ≤ _; omega
              have u7 : IntKind.u64.wrap ((g : Int) - 1) = (g1 : Int) := by rw [IntKind.wrap_u64]; omega
              have u8 : IntKind.u64.wrap ((r : Int) + (v1 : Int)) = (r1 : Int) := by rw [IntKind.wrap_u64]; omega
              have hg1lt : g1 < g := by omega
              clear eP err eW hP64 ht
              clear eg1 er1 hpt
              go_upto_region 16 with (fail)
              go_quiet (fail)
              have cv1x : (wr.drewN nq).cell? ⟨gV, k1, none⟩ = some (.int .u32 (v1 : Int)) := cv1
              have hSX := hS.out.drewN nq
              clear cv1 cv2 cy2 hS hbel
              generalize wr.drewN nq = wx at cv1x hSX ⊢
              have HSX := Lib.hid hSX
              clear hSX
              clear hg hgt hqg hgI hgD hgB uP uR uR' hor hPI hPD
              by_cases hrb : 4294967296 ≤ r1
              · have hrI : (4294967296 : Int) ≤ (r1 : Int) := by omega
                have hrD : decide ((4294967296 : Int) ≤ (r1 : Int)) = true := decide_eq_true hrI
                have hfin := HRND.out.fin2 HG1.out hrb
                have HFIN := Lib.hid hfin
                clear hfin hrb
                go_wp2
                go_meet
                case rel => exact ⟨g1, r1, rfl, rfl, ⟨HQ1G.out, HFIN.out.2, HFIN.out.1⟩, HSX.out⟩
              · have hrI : ¬ (4294967296 : Int) ≤ (r1 : Int) := by omega
                have hrD : decide ((4294967296 : Int) ≤ (r1 : Int)) = false := decide_eq_false hrI
                go_wp2
                go_roundw
                case rel => exact ⟨g1, r1, rfl, rfl, HG1.out, by omega, HQ1G.out, HSX.out⟩
                case measure => simp [intOf]; omega
            · have hPI : ¬ (W : Int) < (P : Int) := by omega
              have hPD : decide ((W : Int) < (P : Int)) = false := decide_eq_false hPI
              have HFIN := Lib.hid (HRND.out.fin hg (by omega) (by rw [← eP, ← err, ← eW]; exact ht))
              have HQG := Lib.hid hqg
              have HGB : Hid (g < 4294967296) := by show _ < _; omega
              clear eP err eW hP64 ht
              clear hpt
              go_upto_region 16 with (fail)
              go_quiet (fail)
              have hSX := hS.out.drewN nq
              clear cv1 cv2 cy2 hS hbel
              generalize wr.drewN nq = wx at hSX ⊢
              have HSX := Lib.hid hSX
              clear hSX
              clear hg hgt hqg hgI hgD hgB uP uR uR' hor hPI hPD
              go_wp2
              go_meet
              case rel => exact ⟨g, r, rfl, rfl, ⟨HQG.out, HFIN.out, HGB.out⟩, HSX.out⟩
      case rest =>
        obtain ⟨g, r, rfl, rfl, HGQ, hS⟩ := hcut
        clear HS2 HGR HR0 HQG0 HG64 HRND HPT
        have hgB : g < 4294967296 := HGQ.out.2.2
        go_wp2_with fail
        go_loopw [17, 18, 148] (fun cv bv iv wr => ∃ i c b T : Nat, i ≤ n ∧ iv = .int .i64 (i : Int) ∧ cv = .int .u64 (c : Int) ∧ bv = .int .u64 (b : Int) ∧ Hid (SubSt 4294967296 V X g j i T b c) ∧ Hid (DSt w3 wr gU (p + 1) cU gq m T (fun i => if j + 1 ≤ i then dig 4294967296 (D / V) i else 0))) (fun _ _ iv _ => n - (intOf iv).toNat)
        case atStart => exact ⟨0, 0, 0, X, Nat.zero_le _, rfl, rfl, rfl, SubSt.start (by omega), hS.out⟩
        case round =>
          obtain ⟨i, c, b, T, hi, rfl, rfl, rfl, hSu, hS⟩ := hrel
          by_cases hlt : i < n
          · obtain ⟨ij, eij⟩ : ∃ z, z = i + j := ⟨_, rfl⟩
            have hmn := HMN.out
            have hkn := HKN.out
            have hejn := EJN.out
            have hij := hS.out.cell ij (by omega)
            obtain ⟨cu, fu⟩ := hij
            have hbel := hS.out.2.2.1
            have cv1 := (hbel.cell (p := ⟨gV, i, none⟩) HVlt.out).trans (HVC.out i hlt)
            rw [hSu.out.up ij (by omega)] at cu
            have hx := dig_lt (B := 4294967296) (by omega) X ij
            have hv := dig_lt (B := 4294967296) (by omega) V i
            have hstep : ∀ lo hi y b', g * dig 4294967296 V i + c = hi * 4294967296 + lo → hi < 4294967296 → y < 4294967296 → b' ≤ 1 → y + lo + b = dig 4294967296 X (i + j) + b' * 4294967296 → SubSt 4294967296 V X g j (i + 1) (setDig 4294967296 T (i + j) y) b' hi := fun lo hi y b' h1 h2 h3 h4 h5 => hSu.out.step (by omega) hgB h1 h2 h3 h4 h5
            rw [← eij] at hstep
            obtain ⟨x, ex⟩ : ∃ x, x = dig 4294967296 X ij := ⟨_, rfl⟩
            obtain ⟨v, ev⟩ : ∃ x, x = dig 4294967296 V i := ⟨_, rfl⟩
            rw [← ex] at cu hx hstep
            rw [← ev] at cv1 hv hstep
            have hcB := hSu.out.hc
            have hbB := hSu.out.hb
            obtain ⟨M, pw, lo, hi2, z, d, Tz, s1, s2, s3, s4, s5, s6, s7, s8, a1, a2, a3, a4, a5, a6, a7⟩ := sub_words g v c b x hgB hv hcB hbB hx
            have HST := Lib.hid (hstep lo hi2 z d s1 s2 s3 s4 s5)
            have HNX := Lib.hid (hS.out.set ij z (by omega) s3)
            have w1 : (i : Int) + (j : Int) = (ij : Int) := by omega
            have w2 : (ij : Int) < (p : Int) + 1 := by omega
            have w3' : IntKind.i64.wrap (ij : Int) = (ij : Int) := by rw [IntKind.wrap_i64]; omega
            have w4 : IntKind.u64.wrap (v : Int) = (v : Int) := by rw [IntKind.wrap_u64]; omega
            have w5 : IntKind.u64.wrap (x : Int) = (x : Int) := by rw [IntKind.wrap_u64]; omega
            have w6 : (i : Int) < (n : Int) := by omega
            have w7 : (M : Int) + (c : Int) = (pw : Int) := by omega
            have w8 : (ij : Int) ≤ 4000 := by omega
            clear hstep hSu hS hbel ex ev eij s1 s5 s7 hmn hkn hejn
            go_wp2_with fail
            go_roundw
            case rel => exact ⟨i + 1, hi2, d, _, by omega, by go_num, rfl, rfl, HST.out, HNX.out⟩
            case measure => simp [intOf]; omega
          · obtain rfl : n = i := by omega
            have hmn := HMN.out
            have hkn := HKN.out
            have hejn := EJN.out
            obtain ⟨cu, fu⟩ := hS.out.cell jn (by omega)
            rw [hSu.out.up jn (by omega)] at cu
            have hx := dig_lt (B := 4294967296) (by omega) X jn
            have hend : ∀ y d, y < 4294967296 → d ≤ 1 → y + b + c = dig 4294967296 X (n + j) + d * 4294967296 → (d = 0 → g = dig 4294967296 (D / V) j ∧ setDig 4294967296 T (n + j) y = D % (V * 4294967296 ^ j)) ∧
    (d = 1 → g = dig 4294967296 (D / V) j + 1 ∧ setDig 4294967296 T (n + j) y + V * 4294967296 ^ j = D % (V * 4294967296 ^ j) + 4294967296 ^ (n + j + 1) ∧ (∀ k, n + j + 1 ≤ k → dig 4294967296 (setDig 4294967296 T (n + j) y) k = 0)) :=
              fun y d h1 h2 h3 => sub_end hV0 HVB.out HXL.out HQ1.out HQ2.out hSu.out (by rw [← HQE.out]; exact HGQ.out.1) (by rw [← HQE.out]; exact HGQ.out.2.1) h1 h2 h3
            rw [show n + j = jn by omega] at hend
            obtain ⟨x, ex⟩ : ∃ x, x = dig 4294967296 X jn := ⟨_, rfl⟩
            rw [← ex] at cu hx hend
            have hcB := hSu.out.hc
            have hbB := hSu.out.hb
            obtain ⟨z, d, Tz, s1, s2, s3, a1, a2, a3⟩ := sub_lastW c b x hcB hbB hx
            have HEND := Lib.hid (hend z d s1 s2 s3)
            have hnx := hS.out.set jn z (by omega) s1
            obtain ⟨cq, fq⟩ := hnx.qcell j (by omega)
            have HNX := Lib.hid hnx
            have w5 : IntKind.u64.wrap (x : Int) = (x : Int) := by rw [IntKind.wrap_u64]; omega
            have w6 : ¬ (n : Int) < (n : Int) := by omega
            have w7 : (j : Int) < (m : Int) := by omega
            have w8 : (0 : Int) ≤ (j : Int) := by omega
            have w9 : IntKind.i64.wrap (j : Int) = (j : Int) := by rw [IntKind.wrap_i64]; omega
            have w10 : (g : Int) % 4294967296 = (g : Int) := by omega
            clear hend hSu hS ex s3 hnx
            rcases (show d = 0 ∨ d = 1 by omega) with rfl | rfl
            · have hE := HEND.out.1 rfl
              have HE := Lib.hid hE
              clear hE HEND hmn hkn hejn
              go_wp2_with fail
              go_roundw
              case rel => exact ⟨j, by omega, rfl, HNX.out.qend HE.out.2 HE.out.1⟩
              case measure => simp [intOf]
            · have hE := HEND.out.2 rfl
              obtain ⟨Y, eY⟩ : ∃ Y, Y = setDig 4294967296 T jn z := ⟨_, rfl⟩
              rw [← eY] at hE HNX
              obtain ⟨g1, eg1⟩ : ∃ g1, g = g1 + 1 := ⟨g - 1, by have := hE.1; omega⟩
              have u7 : IntKind.u64.wrap ((g : Int) - 1) = (g1 : Int) := by rw [IntKind.wrap_u64]; omega
              have hg1B : g1 < 4294967296 := by omega
              have w11 : (g1 : Int) % 4294967296 = (g1 : Int) := by omega
              have hg1 : g1 = dig 4294967296 (D / V) j := by have := hE.1; omega
              have HG1 := Lib.hid hg1
              have HE := Lib.hid hE.2
              clear hE HEND hmn hkn hejn eY eg1 cq fq hg1 w10
              go_wp2_with fail
              generalize wr.setCell ⟨gU, jn, none⟩ (.int .u32 (z : Int)) = wy at HNX ⊢
              clear cu fu
              go_loopw [17, 209] (fun cv iv wr => ∃ i c T : Nat, i ≤ n ∧ iv = .int .i64 (i : Int) ∧ cv = .int .u64 (c : Int) ∧ Hid (AddSt 4294967296 V Y j i T c) ∧ Hid (DSt w3 wr gU (p + 1) cU gq m T (fun i => if j + 1 ≤ i then dig 4294967296 (D / V) i else 0))) (fun _ iv _ => n - (intOf iv).toNat)
              case atStart => exact ⟨0, 0, Y, Nat.zero_le _, rfl, rfl, AddSt.start, HNX.out⟩
              case round =>
                obtain ⟨i, c, T, hi, rfl, rfl, hAd, hS⟩ := hrel
                by_cases hlt : i < n
                · obtain ⟨ij, eij⟩ : ∃ z, z = i + j := ⟨_, rfl⟩
                  have hmn := HMN.out
                  have hkn := HKN.out
                  obtain ⟨cu, fu⟩ := hS.out.cell ij (by omega)
                  have hbel := hS.out.2.2.1
                  have cv1 := (hbel.cell (p := ⟨gV, i, none⟩) HVlt.out).trans (HVC.out i hlt)
                  rw [hAd.out.up ij (by omega)] at cu
                  have hu := dig_lt (B := 4294967296) (by omega) Y ij
                  have hv := dig_lt (B := 4294967296) (by omega) V i
                  have hstep : ∀ y d, y < 4294967296 → d ≤ 1 → c + (dig 4294967296 Y (i + j) + dig 4294967296 V i) = y + d * 4294967296 → AddSt 4294967296 V Y j (i + 1) (setDig 4294967296 T (i + j) y) d := fun y d h1 h2 h3 => hAd.out.step (by omega) h1 h2 h3
                  rw [← eij] at hstep
                  obtain ⟨u, eu⟩ : ∃ x, x = dig 4294967296 Y ij := ⟨_, rfl⟩
                  obtain ⟨v, ev⟩ : ∃ x, x = dig 4294967296 V i := ⟨_, rfl⟩
                  rw [← eu] at cu hu hstep
                  rw [← ev] at cv1 hv hstep
                  have hc1 := hAd.out.hc
                  obtain ⟨t, s, z, d, e1, e2, s1, s2, s3, s4, a1, a2, a3, a4⟩ := add_words c u v hc1 hu hv
                  have HST := Lib.hid (hstep z d s1 s2 s3)
                  have w1 : (i : Int) + (j : Int) = (ij : Int) := by omega
                  have w2 : (ij : Int) < (p : Int) + 1 := by omega
                  have w3' : IntKind.i64.wrap (ij : Int) = (ij : Int) := by rw [IntKind.wrap_i64]; omega
                  have w3i : IntKind.i64.wrap (i : Int) = (i : Int) := by rw [IntKind.wrap_i64]; omega
                  have w4 : IntKind.u64.wrap (v : Int) = (v : Int) := by rw [IntKind.wrap_u64]; omega
                  have w5 : IntKind.u64.wrap (u : Int) = (u : Int) := by rw [IntKind.wrap_u64]; omega
                  have w6 : (i : Int) < (n : Int) := by omega
                  have w8 : (ij : Int) ≤ 4000 := by omega
                  have w9 : IntKind.u64.wrap (t : Int) = (t : Int) := by rw [IntKind.wrap_u64]; omega
                  have w10 : IntKind.u64.wrap (s : Int) = (s : Int) := by rw [IntKind.wrap_u64]; omega
                  clear hstep hAd hbel eu ev eij s3 hmn hkn e1 e2
                  go_upto_region 38 with (fail)
                  go_quiet (fail)
                  have cu' : (wr.drewN nq).cell? ⟨gU, ij, none⟩ = some (.int .u32 (u : Int)) := cu
                  have fu' : (wr.drewN nq).frozen? ⟨gU, ij, none⟩ = false := fu
                  have hS2 := hS.out.drewN nq
                  have HNX2 := Lib.hid (hS2.set ij z (by have := HMN.out; have := HKN.out; omega) s1)
                  clear hS2 hS cu fu cv1
                  generalize wr.drewN nq = wq at cu' fu' HNX2 ⊢
                  go_wp2_with fail
                  go_roundw
                  case rel => exact ⟨i + 1, d, _, by omega, by go_num, rfl, HST.out, HNX2.out⟩
                  case measure => simp [intOf]; omega
                · obtain rfl : n = i := by omega
                  have hmn := HMN.out
                  have hkn := HKN.out
                  have hejn := EJN.out
                  obtain ⟨cu, fu⟩ := hS.out.cell jn (by omega)
                  rw [hAd.out.up jn (by omega)] at cu
                  have hlast : setDig 4294967296 T (n + j) ((dig 4294967296 Y (n + j) + c) % 4294967296) = D % (V * 4294967296 ^ j) :=
                    hAd.out.last (by omega) HVB.out (Nat.mod_lt _ (Nat.mul_pos hV0 (Nat.pow_pos (by omega)))) (by rw [show n + j = jn by omega]; exact HE.out.1) (by rw [show n + j = jn by omega]; exact HE.out.2)
                  rw [show n + j = jn by omega] at hlast
                  obtain ⟨x, ex⟩ : ∃ x, x = dig 4294967296 Y jn := ⟨_, rfl⟩
                  have hx := dig_lt (B := 4294967296) (by omega) Y jn
                  rw [← ex] at cu hlast hx
                  have hc1 := hAd.out.hc
                  obtain ⟨z, ez⟩ : ∃ z, z = (x + c) % 4294967296 := ⟨_, rfl⟩
                  rw [← ez] at hlast
                  have hnx := hS.out.set jn z (by omega) (by omega)
                  obtain ⟨cq, fq⟩ := hnx.qcell j (by omega)
                  have HNX2 := Lib.hid hnx
                  have HL := Lib.hid hlast
                  have v1 : (c : Int) % 4294967296 = (c : Int) := by omega
                  have v2 : IntKind.u32.wrap ((x : Int) + (c : Int)) = (z : Int) := by rw [IntKind.wrap_u32]; omega
                  have v3 : ((x : Int) + (c : Int)) % 4294967296 = (z : Int) := by omega
                  clear hlast hAd hS hnx ex ez hmn hkn hejn
                  go_wp2_with fail
                  go_simp
                  go_wp2_with fail
                  go_roundw
                  case rel => exact ⟨j, by omega, rfl, HNX2.out.qend HL.out HG1.out⟩
                  case measure => simp [intOf]
end Go.Proofs.Ytkjlfjnncdkmlaa

/- Walks: the product of two forms. -/
namespace Go.Proofs.Ytkjlfjnncdkmlaa
set_option linter.all false
open Go.RowKit Go.Shelf Go.WideNum
set_option maxRecDepth 100000 in
set_option maxHeartbeats 8000000 in
theorem Mul_any (na : Bool) (sa : ByteArray) (nb : Bool) (sb : ByteArray) (hsa : sa.size ≤ maxLen) (hsb : sb.size ≤ maxLen) (w : World) :
    Calls Try.prog 87 #[.agg #[.bool na, .string sa], .agg #[.bool nb, .string sb]] w fun e w' => e = .returned (.tuple #[(opF (fun a b => a * b) na sa nb sb).1, .int .i64 (opF (fun a b => a * b) na sa nb sb).2]) ∧ Below w.heap.size w w' := by
  obtain ⟨HPOST, hpost⟩ : ∃ X : Ending → World → Prop, X = fun e w' => e = .returned (.tuple #[(opF (fun a b => a * b) na sa nb sb).1, .int .i64 (opF (fun a b => a * b) na sa nb sb).2]) ∧ Below w.heap.size w w' := ⟨_, rfl⟩
  rw [← hpost]
  have HP := Lib.hid hpost
  clear hpost
  obtain ⟨W0, hW0⟩ : ∃ W0, W0 = ((w.alloc (.cells #[.bool na, .string sa] 42)).alloc (.cells #[.bool nb, .string sb] 42)).alloc (.cells #[.bool false, .string ⟨#[]⟩] 42) := ⟨_, rfl⟩
  have g0 : W0.heap[w.heap.size]? = some (.cells #[.bool na, .string sa] 42) := by rw [hW0]; repeat (first | (refine alloc_last _ _ ?_; simp only [World.size_alloc]; done) | (rw [Below.heap_alloc]; rotate_left; (simp only [World.size_alloc]; omega)))
  have g1 : W0.heap[w.heap.size + 1]? = some (.cells #[.bool nb, .string sb] 42) := by rw [hW0]; repeat (first | (refine alloc_last _ _ ?_; simp only [World.size_alloc]; done) | (rw [Below.heap_alloc]; rotate_left; (simp only [World.size_alloc]; omega)))
  have g2 : W0.heap[w.heap.size + 1 + 1]? = some (.cells #[.bool false, .string ⟨#[]⟩] 42) := by rw [hW0]; repeat (first | (refine alloc_last _ _ ?_; simp only [World.size_alloc]; done) | (rw [Below.heap_alloc]; rotate_left; (simp only [World.size_alloc]; omega)))
  have hb0 : Below w.heap.size w W0 := by rw [hW0]; exact ((((Below.refl _ w).alloc (Nat.le_refl _) _).alloc (by simp) _).alloc (by simp; omega) _)
  have HB0 := Lib.hid hb0
  have HG0 := Lib.hid g0
  have HG1 := Lib.hid g1
  have HG2 := Lib.hid g2
  obtain ⟨c00, c01, f0⟩ := wide_cells g0
  obtain ⟨c10, c11, f1⟩ := wide_cells g1
  have HW0 := Lib.hid hW0
  clear hb0 g0 g1 g2 hW0
  go_enter Try.func87, Try.ntmps87
  go_upto_region 1 with (fail)
  rw [← HW0.out]
  go_wp2_with fail
  obtain ⟨ok, hok⟩ : ∃ ok, ok = (validB na sa && validB nb sb) := ⟨_, rfl⟩
  have hval := valid2_any na sa nb sb hsa hsb (W0.alloc (.cells #[.bool na, .string sa, .bool nb, .string sb] 42)) W0.heap.size (heap_alloc_new W0 _)
  rw [← hok] at hval
  have HOK := Lib.hid hok
  clear hok
  (with_reducible refine hval.mono ?_)
  clear hval
  rintro e w1 ⟨rfl, hb1⟩
  have hb01 : Below W0.heap.size W0 w1 := ((Below.refl _ W0).alloc (Nat.le_refl _) _).trans (hb1.mono (by simp))
  have k0 := (hb01.block _ (lt_of_heap HG0.out)).trans HG0.out
  have k1 := (hb01.block _ (lt_of_heap HG1.out)).trans HG1.out
  have k2 := (hb01.block _ (lt_of_heap HG2.out)).trans HG2.out
  have HK2 := Lib.hid k2
  have HBw1 := Lib.hid (HB0.out.trans (hb01.mono HB0.out.size))
  clear c00 c01 f0 c10 c11 f1 hb1
  obtain ⟨c00, c01, f0⟩ := wide_cells k0
  obtain ⟨c10, c11, f1⟩ := wide_cells k1
  obtain ⟨e20, e21, f2⟩ := wide_cells k2
  have hl0 := lt_of_heap k0
  have hl1 := lt_of_heap k1
  have hl2 := lt_of_heap k2
  clear k0 k1 k2 hb01
  cases ok with
  | false =>
    have hres : Hid (opF (fun a b => a * b) na sa nb sb = (emptyW, 2)) := by show _ = _; unfold opF; rw [← HOK.out]; rfl
    go_wp2
    have m2 := wide_set HK2.out false ⟨#[]⟩
    have hb9 := below_set2 (p := w.heap.size + 1 + 1) HBw1.out (by omega) false ⟨#[]⟩
    obtain ⟨d20, d21, -⟩ := wide_cells m2
    clear m2 e20 e21 f2
    generalize (w1.setCell ⟨w.heap.size + 1 + 1, 0, none⟩ (.bool false)).setCell ⟨w.heap.size + 1 + 1, 1, none⟩ (.string ⟨#[]⟩) = W9 at d20 d21 hb9 ⊢
    rw [HP.out]
    exact bodyPost_ret (v := .tuple #[emptyW, .int .i64 2]) (by simp [results, Try.results87, go_sem, d20, d21]; rfl) rfl ⟨by rw [hres.out], hb9⟩
  | true =>
    have hv : validB na sa = true ∧ validB nb sb = true := by
      have := HOK.out
      cases h1 : validB na sa <;> cases h2 : validB nb sb <;> rw [h1, h2] at this <;> first | exact ⟨rfl, rfl⟩ | cases this
    obtain ⟨l1, -, -, s256a⟩ := valid_spec na sa hv.1
    obtain ⟨l2, -, -, s256b⟩ := valid_spec nb sb hv.2
    have hofA : Hid (∀ W : World, Calls Try.prog 106 #[.agg #[.bool na, .string sa]] W (NumRet W (numB sa))) := of_wide na sa (by omega)
    have hofB : Hid (∀ W : World, Calls Try.prog 106 #[.agg #[.bool nb, .string sb]] W (NumRet W (numB sb))) := of_wide nb sb (by omega)
    have hwa := wd_len65 l1
    have hwb := wd_len65 l2
    have hres : opF (fun a b => a * b) na sa nb sb = (outZ ((fun a b => a * b) (zV na sa) (zV nb sb)), errZ ((fun a b => a * b) (zV na sa) (zV nb sb))) := by unfold opF; rw [← HOK.out]; rfl
    unfold zV at hres
    obtain ⟨A, hA⟩ : ∃ A, A = numB sa := ⟨_, rfl⟩
    obtain ⟨C, hC⟩ : ∃ C, C = numB sb := ⟨_, rfl⟩
    rw [← hA, ← hC] at hres
    rw [← hA] at hofA hwa
    rw [← hC] at hofB hwb
    have HSUM : Hid (∀ (va vb : Value) (W : World), World.numR W va A → World.numR W vb C → Calls Try.prog 105 #[va, vb] W fun e w' => (∃ v, e = .returned v ∧ World.numR w' v (A * C)) ∧ Below W.heap.size W w') := fun va vb W h1 h2 => times_num A C va vb W h1 h2 (by omega)
    obtain ⟨S, hS⟩ : ∃ S, S = (na != nb) := ⟨_, rfl⟩
    obtain ⟨M, hMM⟩ : ∃ M, M = A * C := ⟨_, rfl⟩
    have hML : (wd M).length ≤ 128 := by rw [hMM]; exact wd_len_prod hwa hwb
    rw [show (fun a b => a * b) (zOf na A) (zOf nb C) = zOf S M by rw [hS, hMM]; exact (mul_z A na C nb).symm] at hres
    rw [← hMM] at HSUM
    have hff : ∃ fb ft, outZ (zOf S M) = .agg #[.bool fb, .string ft] ∧ ∀ (v : Value) (W : World) (S' : Bool), World.numR W v M → S' = S → Calls Try.prog 102 #[v, .bool S'] W fun e w' => e = .returned (.tuple #[.agg #[.bool fb, .string ft], .int .i64 (errZ (zOf S M))]) ∧ Below W.heap.size W w' := by
      have hwide : ∃ b t, outB S M = .agg #[.bool b, .string t] := by unfold outB emptyW wideV; split <;> exact ⟨_, _, rfl⟩
      obtain ⟨b, t, hbt⟩ := hwide
      refine ⟨b, t, by rw [← outB_z]; exact hbt, fun v W S' h hS => ?_⟩
      subst hS
      obtain ⟨b', t', h1, h2⟩ := form_numZ M S' v W h (by omega)
      rw [← outB_z, hbt] at h1
      rwa [← h1] at h2
    obtain ⟨fb, ft, hf1, hf2⟩ := hff
    obtain ⟨E, hE⟩ : ∃ E, E = errZ (zOf S M) := ⟨_, rfl⟩
    rw [hf1, ← hE] at hres
    rw [← hE] at hf2
    have HFF := Lib.hid hf2
    have HRES := Lib.hid hres
    skip
    clear hres hf1 hf2 hE hA hC l1 l2 hwa hwb hv hML hMM
    go_wp2_with fail
    go_region_held3 (fun w' => (w'.cell? ⟨w.heap.size, 0, none⟩ = some (.bool na) ∧ w'.cell? ⟨w.heap.size, 1, none⟩ = some (.string sa) ∧ w'.cell? ⟨w.heap.size + 1, 0, none⟩ = some (.bool nb) ∧ w'.cell? ⟨w.heap.size + 1, 1, none⟩ = some (.string sb)))
      (first | exact ⟨c00, c01, c10, c11⟩ | (refine ⟨?_, ?_, ?_, ?_⟩ <;> assumption) | exact ⟨(World.cell?_of_block (a := ⟨w.heap.size, 0, none⟩) (wide_other (p := w.heap.size) (q := w.heap.size + 1 + 1) (by omega) fb ft)).trans q0, (World.cell?_of_block (a := ⟨w.heap.size, 1, none⟩) (wide_other (p := w.heap.size) (q := w.heap.size + 1 + 1) (by omega) fb ft)).trans q1, (World.cell?_of_block (a := ⟨w.heap.size + 1, 0, none⟩) (wide_other (p := w.heap.size + 1) (q := w.heap.size + 1 + 1) (by omega) fb ft)).trans q2, (World.cell?_of_block (a := ⟨w.heap.size + 1, 1, none⟩) (wide_other (p := w.heap.size + 1) (q := w.heap.size + 1 + 1) (by omega) fb ft)).trans q3⟩)
      (first
        | (go_simp; go_at_call 106; (with_reducible refine (hofA.out _).mono ?_); rintro e w5 ⟨v5, rfl, ho5, hb5⟩; have H5 : Hid (NumRet _ A (.returned v5) w5) := ⟨v5, rfl, ho5, hb5⟩; have a0 := (hb5.cell (p := ⟨w.heap.size, 0, none⟩) hl0).trans c00; have a1 := (hb5.cell (p := ⟨w.heap.size, 1, none⟩) hl0).trans c01; have a2 := (hb5.cell (p := ⟨w.heap.size + 1, 0, none⟩) hl1).trans c10; have a3 := (hb5.cell (p := ⟨w.heap.size + 1, 1, none⟩) hl1).trans c11; have ha0 := Nat.lt_of_lt_of_le hl0 hb5.size; have ha1 := Nat.lt_of_lt_of_le hl1 hb5.size;  clear ho5 hb5)
        | (go_simp; go_at_call 106; (with_reducible refine (hofB.out _).mono ?_); rintro e w6 ⟨v6, rfl, ho6, hb6⟩; have H6 : Hid (NumRet _ C (.returned v6) w6) := ⟨v6, rfl, ho6, hb6⟩; have b0 := (hb6.cell (p := ⟨w.heap.size, 0, none⟩) ha0).trans a0; have b1 := (hb6.cell (p := ⟨w.heap.size, 1, none⟩) ha0).trans a1; have b2 := (hb6.cell (p := ⟨w.heap.size + 1, 0, none⟩) ha1).trans a2; have b3 := (hb6.cell (p := ⟨w.heap.size + 1, 1, none⟩) ha1).trans a3; have hb_0 := Nat.lt_of_lt_of_le ha0 hb6.size; have hb_1 := Nat.lt_of_lt_of_le ha1 hb6.size;  clear ho6 hb6)
        | (go_simp; go_at_call 105; (with_reducible refine (HSUM.out _ _ _ (numR_below H5.out.numR H6.out.bel) H6.out.numR).mono ?_); rintro e w7 ⟨⟨v7, rfl, h7⟩, hb7⟩; have H7 : Hid (World.numR w7 v7 M) := h7; have HB7 := Lib.hid hb7; have d0 := (hb7.cell (p := ⟨w.heap.size, 0, none⟩) hb_0).trans b0; have d1 := (hb7.cell (p := ⟨w.heap.size, 1, none⟩) hb_0).trans b1; have d2 := (hb7.cell (p := ⟨w.heap.size + 1, 0, none⟩) hb_1).trans b2; have d3 := (hb7.cell (p := ⟨w.heap.size + 1, 1, none⟩) hb_1).trans b3; have hd_0 := Nat.lt_of_lt_of_le hb_0 hb7.size; have hd_1 := Nat.lt_of_lt_of_le hb_1 hb7.size;  clear h7 hb7)
        | (go_simp; go_at_call 102; (with_reducible refine (HFF.out _ _ _ H7.out ((bne_eq na nb).trans hS.symm)).mono ?_); rintro e w8 ⟨rfl, hb8⟩; have q0 := (hb8.cell (p := ⟨w.heap.size, 0, none⟩) hd_0).trans d0; have q1 := (hb8.cell (p := ⟨w.heap.size, 1, none⟩) hd_0).trans d1; have q2 := (hb8.cell (p := ⟨w.heap.size + 1, 0, none⟩) hd_1).trans d2; have q3 := (hb8.cell (p := ⟨w.heap.size + 1, 1, none⟩) hd_1).trans d3; have hq_0 := Nat.lt_of_lt_of_le hd_0 hb8.size; have hq_1 := Nat.lt_of_lt_of_le hd_1 hb8.size;  have HB8 := Lib.hid (H5.out.belD.trans (((H6.out.bel.trans (HB7.out.mono H6.out.bel.size)).trans (hb8.mono (Nat.le_trans H6.out.bel.size HB7.out.size))).mono H5.out.belD.size)); have K28 := (HB8.out.block _ hl2).trans HK2.out; have HK28 := Lib.hid K28; obtain ⟨e28, e29, f28⟩ := wide_cells K28; clear hb8 K28))
    all_goals
      go_wp2
      have m2 := wide_set HK28.out fb ft
      have hb9 := below_set2 (p := w.heap.size + 1 + 1) (HBw1.out.trans (HB8.out.mono HBw1.out.size)) (by omega) fb ft
      obtain ⟨d20, d21, -⟩ := wide_cells m2
      clear m2
      generalize (w8.setCell ⟨w.heap.size + 1 + 1, 0, none⟩ (.bool fb)).setCell ⟨w.heap.size + 1 + 1, 1, none⟩ (.string ft) = W9 at d20 d21 hb9 ⊢
      rw [HP.out]
      exact bodyPost_ret (v := .tuple #[.agg #[.bool fb, .string ft], .int .i64 E]) (by simp [results, Try.results87, go_sem, d20, d21]) rfl ⟨by rw [HRES.out], hb9⟩
end Go.Proofs.Ytkjlfjnncdkmlaa

/- Drawn regions in which an extraction may come behind the first late store: it may be thought to come ahead of it. -/
namespace Go
open Go.RowKit Go.Shelf
section
variable {P : Program} {ops : Array Oper} {Q : Exit → Act → World → Prop}
def moreAfter (e : Nat) (o : Oper) : Oper := { o with after := o.after.push ⟨e, .data⟩ }
/-- The operations with an edge more: k waits for e. -/
def withEdge (ops : Array Oper) (k e : Nat) : Array Oper := (ops.toList.modify k (moreAfter e)).toArray
theorem withEdge_get (ops : Array Oper) (k e j : Nat) : (withEdge ops k e)[j]? = if k = j then (ops[j]?).map (moreAfter e) else ops[j]? := by
  unfold withEdge
  rw [List.getElem?_toArray, List.getElem?_modify]
  simp only [Array.getElem?_toList]
  split <;> simp
theorem wpOp_withEdge (k e i : Nat) (K : Act → World → Prop) (a : Act) (w : World) : wpOp P (withEdge ops k e) Q i K a w = wpOp P ops Q i K a w := by
  have hy : yielded (withEdge ops k e) a.tmps = yielded ops a.tmps := yielded_congr (fun j => by
    rw [withEdge_get]
    split
    · cases ops[j]? <;> rfl
    · rfl) _
  unfold wpOp
  rw [withEdge_get, hy]
  by_cases hki : k = i
  · rw [if_pos hki]; cases ops[i]? <;> rfl
  · rw [if_neg hki]
def waitsFor (ops : Array Oper) (k j : Nat) : Bool := ((ops[k]?).map fun o => o.after.any fun e => Region.binds .any e && e.on == j).getD false
theorem waitsFor_listed {k j : Nat} {listed : Array Bool} (h : waitsFor ops k j = true) (hr : k ∈ Region.ready .any ops listed) : listed.getD j false = true := by
  obtain ⟨-, o, ho, hall⟩ := mem_ready.1 hr
  unfold waitsFor at h
  simp only [ho, Option.map_some, Option.getD_some] at h
  obtain ⟨e, he, h1⟩ := Array.any_eq_true'.1 h
  simp only [Bool.and_eq_true, beq_iff_eq] at h1
  rw [← h1.2]
  exact hall e he h1.1
def pureE (oe : Oper) : Bool := (match oe.op with | .extract .. => true | _ => false) && oe.guard.isNone
def edgeB (ops : Array Oper) (k e : Nat) : Bool := e != k && Region.noSelect ops && match ops[e]? with
  | none => false
  | some oe => pureE oe && oe.after.all (fun x => !Region.binds .any x || waitsFor ops k x.on) && (List.range ops.size).all fun j => j == e || waitsFor ops k j || waitsFor ops j e || match ops[j]? with
    | some oj => oe.apart ops oj
    | none => true
theorem pure_yields {oe : Oper} {e : Nat} (he : ops[e]? = some oe) (hp : pureE oe = true) {K : Act → World → Prop} {a : Act} {w : World} (h : wpOp P ops Q e K a w) : ∃ v, Yields P ops oe v a ∧ K (a.put oe.dst v) w := by
  unfold pureE at hp
  simp only [Bool.and_eq_true] at hp
  obtain ⟨h1, h2⟩ := hp
  have hw : ∀ y, Region.wanted oe y = true := fun y => by
    unfold Region.wanted
    cases hg : oe.guard with
    | none => rfl
    | some x => rw [hg] at h2; cases h2
  unfold wpOp at h
  simp only [he, hw, if_true] at h
  cases hop : oe.op with
  | extract t ix =>
    have hx : execOp a.eval oe = (do pure (.value (← Instr.extract (a.eval t) ix)) : Sem Next) := by unfold execOp; rw [hop]
    have hbad : ∀ m, execOp a.eval oe = (do pure (.value (← (stuck m : Sem Value))) : Sem Next) → False := fun m hm => by
      rcases h with h | ⟨h, -⟩
      · unfold Oper.wp at h; rw [hm] at h; exact h
      · unfold Oper.asks at h; rw [hm] at h; exact absurd h.1 (by show ¬ noRoomEvent ∈ (#[] : Array Event); simp)
    generalize a.eval t = u at hx
    cases u with
    | tuple vs =>
      cases hv : vs[ix]? with
      | some v =>
        have hm : execOp a.eval oe = (do pure (.value (← (pure v : Sem Value))) : Sem Next) := by rw [hx]; simp only [Instr.extract, hv]
        have hr : ∀ w, (execOp a.eval oe).run P w = .ok (.value v) w := fun w => by rw [hm]; rfl
        refine ⟨v, .inl ⟨hw _, hr⟩, ?_⟩
        rcases h with h | ⟨h, -⟩
        · unfold Oper.wp at h; rw [hr] at h; exact h
        · unfold Oper.asks at h; rw [hm] at h; exact absurd h.1 (by show ¬ noRoomEvent ∈ (#[] : Array Event); simp)
      | none => exact (hbad "Extract: no such component" (by rw [hx]; simp only [Instr.extract, hv])).elim
    | _ => exact (hbad "Extract: tuple expected" (by rw [hx]; rfl)).elim
  | _ => rw [hop] at h1; cases h1
theorem wpAny_edge {k e : Nat} {oe : Oper} (he : ops[e]? = some oe) (hB : edgeB ops k e = true) (hQ : ∀ v c a w, Q (.panic c) (a.put oe.dst v) w → Q (.panic c) a w) :
    ∀ (fuel : Nat) (listed : Array Bool) (a : Act) (w : World), e < listed.size → wpAny P .any (withEdge ops k e) Q fuel listed a w → wpAny P .any ops Q fuel listed a w := by
  unfold edgeB at hB
  rw [he] at hB
  simp only [Bool.and_eq_true, bne_iff_ne, ne_eq, List.all_eq_true, List.mem_range, Array.all_eq_true_iff_forall_mem, Bool.or_eq_true, Bool.not_eq_true', beq_iff_eq] at hB
  obtain ⟨⟨hek, hs⟩, ⟨hp, hin⟩, hfree⟩ := hB
  have hsub : ∀ listed j, j ∈ Region.ready .any (withEdge ops k e) listed → j ∈ Region.ready .any ops listed := fun listed j hj => by
    obtain ⟨h1, o, ho, h2⟩ := mem_ready.1 hj
    rw [withEdge_get] at ho
    split at ho
    · cases hoj : ops[j]? with
      | none => rw [hoj] at ho; cases ho
      | some o' =>
        rw [hoj] at ho
        injection ho with ho
        subst ho
        exact mem_ready.2 ⟨h1, o', hoj, fun x hx hb => h2 x (Array.mem_push_of_mem _ hx) hb⟩
    · exact mem_ready.2 ⟨h1, o, ho, h2⟩
  have hsup : ∀ listed j, j ∈ Region.ready .any ops listed → (j = k → listed.getD e false = true) → j ∈ Region.ready .any (withEdge ops k e) listed := fun listed j hj hk => by
    obtain ⟨h1, o, ho, h2⟩ := mem_ready.1 hj
    by_cases hjk : k = j
    · refine mem_ready.2 ⟨h1, moreAfter e o, by rw [withEdge_get, if_pos hjk, ho]; rfl, fun x hx hb => ?_⟩
      rcases Array.mem_push.1 hx with hx | hx
      · exact h2 x hx hb
      · subst hx; exact hk hjk.symm
    · exact mem_ready.2 ⟨h1, o, by rw [withEdge_get, if_neg hjk]; exact ho, h2⟩
  have hre : ∀ listed, k ∈ Region.ready .any ops listed → listed.getD e true = false → e ∈ Region.ready .any ops listed := fun listed hk hl =>
    mem_ready.2 ⟨hl, oe, he, fun x hx hb => by
      rcases hin x hx with h | h
      · rw [h] at hb; cases hb
      · exact waitsFor_listed h hk⟩
  have hcase : ∀ listed : Array Bool, e < listed.size → (k ∈ Region.ready .any ops listed ∧ listed.getD e true = false) ∨ (∀ j, j ∈ Region.ready .any ops listed → j ∈ Region.ready .any (withEdge ops k e) listed) := fun listed hsz => by
    by_cases hk : k ∈ Region.ready .any ops listed
    · cases hl : listed.getD e true with
      | false => exact .inl ⟨hk, rfl⟩
      | true =>
        refine .inr fun j hj => hsup listed j hj fun _ => ?_
        simpa [hsz] using hl
    · exact .inr fun j hj => hsup listed j hj fun h => absurd (h ▸ hj) hk
  intro fuel
  induction fuel with
  | zero =>
    intro listed a w hsz H
    refine ⟨?_, H.2⟩
    rcases hcase listed hsz with ⟨hk, hl⟩ | h
    · have := hsup listed e (hre listed hk hl) (fun h => absurd h hek)
      rw [H.1] at this; cases this
    · refine List.eq_nil_iff_forall_not_mem.2 fun j hj => ?_
      have := h j hj
      rw [H.1] at this; cases this
  | succ fuel ih =>
    intro listed a w hsz H
    rcases hcase listed hsz with ⟨hk, hl⟩ | h
    · have her := hre listed hk hl
      have h1 := H.2 e (hsup listed e her (fun h => absurd h hek))
      rw [wpOp_withEdge] at h1
      obtain ⟨v, hy, h2⟩ := pure_yields he hp h1
      refine wpAny_first he (Region.noSelect_spec hs) (hQ v) fuel listed a w (fun j oj hj hje hun hno => ?_) her hy (ih _ _ _ (by simpa using hsz) h2)
      have := hfree j (Array.getElem?_eq_some_iff.1 hj).1
      rcases this with ((h | h) | h) | h
      · exact absurd h hje
      · have := waitsFor_listed h hk
        exact (unlisted_not hun this).elim
      · unfold waitsFor at h
        simp only [hj, Option.map_some, Option.getD_some] at h
        obtain ⟨x, hx, h1⟩ := Array.any_eq_true'.1 h
        simp only [Bool.and_eq_true, beq_iff_eq] at h1
        exact absurd h1.2 (hno x hx h1.1)
      · rw [hj] at h; exact h
    · refine ⟨fun h0 => H.1 ?_, fun j hj => ?_⟩
      · refine List.eq_nil_iff_forall_not_mem.2 fun j hj => ?_
        have := hsub listed j hj
        rw [h0] at this; cases this
      · have h1 := H.2 j (h j hj)
        rw [wpOp_withEdge] at h1
        exact wpOp_mono (fun a' w' => ih _ a' w' (by simpa using hsz)) h1
/-- A drawn region, with an edge more. -/
theorem wp_region_AE {id : Nat} {a : Act} {w : World} (k e : Nat) {oe : Oper} (B : Nat) (S F : World → Prop) (late : Nat → Bool) (hm : P.follows .mixedOrders = true) (he : ops.toList[e]? = some oe) (hB : edgeB ops k e = true)
    (hQ : ∀ v c a w, Q (.panic c) (a.put oe.dst v) w → Q (.panic c) a w) (hw : waitsA (withEdge ops k e) late = true) (hF : Fact B S F) (hFw : F w.drew)
    (h : Fact B S F → wpAnyA P (withEdge ops k e) Q B S late (fun fuel listed a w => wpAny P .any (withEdge ops k e) Q fuel listed a w) ops.size (Array.replicate ops.size false) a F) : (Code.region id ops true).wp P Q a w := by
  have he' : ops[e]? = some oe := by simpa using he
  exact wp_region_any hm (wpAny_edge he' hB hQ _ _ _ _ (by rw [Array.size_replicate]; exact (Array.getElem?_eq_some_iff.1 he').1) (wpAny_of_A (waitsA_spec hw) _ _ _ F _ (h hF) hFw))
end
end Go

/- Wide integers: helpers and walks, in one text (XG1 XG2 XG3). -/
/- The reference: an absolute value divided by a number below 2^16. -/

/- The reference: the decimal text of a form. -/
namespace Go.Proofs.Ytkjlfjnncdkmlaa
set_option linter.all false
open Go.RowKit Go.Shelf Go.WideNum
theorem hw_pos {n : Nat} : 0 < (hw n).length ↔ n ≠ 0 := by
  have := words_len0 (B := 65536) (by omega) n
  unfold hw
  omega
end Go.Proofs.Ytkjlfjnncdkmlaa

/- The reference: the integer of a text. -/

/- Wide integers: helpers and walks, in one text (XC1 XC2 XC3 XC4). -/
/- How many binary digits a form has. -/

/- The reference: two numbers with signs compared; the number of binary digits of a form, both. -/
namespace Go
section
variable {P : Program} {ops : Array Oper} {Q : Exit → Act → World → Prop} {S : World → Prop} {late : Nat → Bool}
/-- Two operations may come up. -/
theorem wpAnyD_two (i j : Nat) {oi oj : Oper} {fuel : Nat} {listed : Array Bool} {a : Act} {w : World} (hr : Region.ready .any ops listed = [i, j]) (hoi : ops.toList[i]? = some oi) (hoj : ops.toList[j]? = some oj)
    (h1 : ∀ K' : Act → World → Prop, Shut (∀ a w, S w → (S w → wpAnyD P ops Q S late fuel (listed.setIfInBounds i true) a w) → K' a w) → if Region.wanted oi (yielded ops a.tmps) = true then Oper.wp P oi a w K' Q else K' (a.put oi.dst undef) w)
    (h2 : ∀ K' : Act → World → Prop, Shut (∀ a w, S w → (S w → wpAnyD P ops Q S late fuel (listed.setIfInBounds j true) a w) → K' a w) → if Region.wanted oj (yielded ops a.tmps) = true then Oper.wp P oj a w K' Q else K' (a.put oj.dst undef) w) :
    wpAnyD P ops Q S late (fuel + 1) listed a w := by
  refine ⟨fun h0 => (by rw [hr] at h0; cases h0), fun k hk => ?_⟩
  rw [hr] at hk
  rcases List.mem_cons.1 hk with h | h
  · subst h
    exact wpOp_step (by simpa using hoi) (fun K' hK => h1 K' (fun a w hS hW => hK a w ⟨fun _ _ => hS, hW hS⟩))
  · obtain rfl : k = j := by simpa using h
    exact wpOp_step (by simpa using hoj) (fun K' hK => h2 K' (fun a w hS hW => hK a w ⟨fun _ _ => hS, hW hS⟩))
end
end Go
namespace Go.Proofs.Ytkjlfjnncdkmlaa
set_option linter.all false
open Go.RowKit Go.Shelf Go.WideNum
theorem cmp_sign (an : Bool) (A : Nat) (bn : Bool) (C : Nat) (S : Bool) (N : Nat) (hz : zOf S N = zOf an A - zOf bn C) (hS : S = true → N ≠ 0) :
    cmpZ (zOf an A) (zOf bn C) = if S then -1 else if N = 0 then 0 else 1 := by
  unfold cmpZ
  generalize zOf an A = x at *
  generalize zOf bn C = y at *
  unfold zOf at hz
  cases S with
  | true =>
    have := hS rfl
    simp at hz ⊢
    omega
  | false =>
    simp at hz ⊢
    by_cases h : N = 0
    · rw [if_neg (by omega), if_neg (by omega), if_pos h]
    · rw [if_neg (by omega), if_pos (by omega), if_neg h]
set_option maxRecDepth 100000 in
set_option maxHeartbeats 8000000 in
theorem hcompare_any (an : Bool) (A : Nat) (va : Value) (bn : Bool) (C : Nat) (vb : Value) (w : World) (hA : World.numH w va A) (hC : World.numH w vb C) (hla : (hw A).length ≤ 2000) (hlc : (hw C).length ≤ 2000) :
    Calls Try.prog 99 #[.agg #[.bool an, va], .agg #[.bool bn, vb]] w fun e w' => e = .returned (.int .i64 (cmpZ (zOf an A) (zOf bn C))) ∧ Below w.heap.size w w' := by
  have HA : Hid (World.numH w va A) := hA
  have HC : Hid (World.numH w vb C) := hC
  obtain ⟨aa, p, ca, -, rfl, -, -, -⟩ := numH_words hA
  obtain ⟨ab, q, cb, -, rfl, -, -, -⟩ := numH_words hC
  clear hA hC
  obtain ⟨W0, hW0⟩ : ∃ W0, W0 = (w.alloc (.cells #[.bool an, .slice aa p ca] 77)).alloc (.cells #[.bool bn, .slice ab q cb] 77) := ⟨_, rfl⟩
  have g0 : W0.heap[w.heap.size]? = some (.cells #[.bool an, .slice aa p ca] 77) := by rw [hW0, Below.heap_alloc _ _ _ (by simp)]; exact heap_alloc_new w _
  have g1 : W0.heap[w.heap.size + 1]? = some (.cells #[.bool bn, .slice ab q cb] 77) := by rw [hW0]; exact alloc_last _ _ (by simp)
  have hb0 : Below w.heap.size w W0 := by rw [hW0]; exact (((Below.refl _ w).alloc (Nat.le_refl _) _).alloc (by simp) _)
  have HB0 := Lib.hid hb0
  obtain ⟨c00, c01, f00, f01⟩ := num_cells g0
  obtain ⟨c10, c11, f10, f11⟩ := num_cells g1
  have HW0 := Lib.hid hW0
  have HNA := Lib.hid (numH_below HA.out hb0)
  have HNC := Lib.hid (numH_below HC.out hb0)
  have hcx : Hid (∀ W, Below W0.heap.size W0 W → W.cell? ⟨w.heap.size, 0, none⟩ = some (.bool an) ∧ W.cell? ⟨w.heap.size, 1, none⟩ = some (.slice aa p ca) ∧ W.cell? ⟨w.heap.size + 1, 0, none⟩ = some (.bool bn) ∧ W.cell? ⟨w.heap.size + 1, 1, none⟩ = some (.slice ab q cb)) := fun W hb => by
    obtain ⟨k0, k1, -, -⟩ := num_cells ((hb.block _ (lt_of_heap g0)).trans g0)
    obtain ⟨k2, k3, -, -⟩ := num_cells ((hb.block _ (lt_of_heap g1)).trans g1)
    exact ⟨k0, k1, k2, k3⟩
  have hz0 := lt_of_heap g0
  have hz1 := lt_of_heap g1
  obtain ⟨nc, hnc⟩ : ∃ s, s = (!bn && decide (C ≠ 0)) := ⟨_, rfl⟩
  have HNEG : Hid (∀ W v, World.numH W v C → Calls Try.prog 113 #[.agg #[.bool bn, v]] W (SRet W nc C)) := fun W v h => by rw [hnc]; exact negative_any bn C _ (hw_vlt C) (by omega) v W (numH_raw h)
  obtain ⟨S, hS⟩ : ∃ S, S = (sumS A an C nc && decide (sumN A an C nc ≠ 0)) := ⟨_, rfl⟩
  obtain ⟨M, hM⟩ : ∃ M, M = sumN A an C nc := ⟨_, rfl⟩
  have HADD : Hid (∀ W va vb, World.numH W va A → World.numH W vb C → Calls Try.prog 76 #[.agg #[.bool an, va], .agg #[.bool nc, vb]] W (SRet W S M)) := fun W va vb h1 h2 => by rw [hS, hM]; exact hadd_any an A va nc C vb W h1 h2 (by omega) (by omega)
  have hz : zOf S M = zOf an A - zOf bn C := by
    rw [hS, hM, zOf_and]
    refine (sum_z A an C nc).trans ?_
    rw [hnc, zOf_and]
    unfold zOf
    cases bn <;> simp <;> omega
  have hc := cmp_sign an A bn C S M hz (fun h => by
    rw [hS, ← hM] at h
    intro h0
    rw [h0] at h
    simp at h)
  obtain ⟨R, hR⟩ : ∃ R, R = cmpZ (zOf an A) (zOf bn C) := ⟨_, rfl⟩
  rw [← hR] at hc ⊢
  have HRR := Lib.hid hc
  obtain ⟨HPOST, hpost⟩ : ∃ X : Ending → World → Prop, X = fun e w' => e = .returned (.int .i64 R) ∧ Below w.heap.size w w' := ⟨_, rfl⟩
  rw [← hpost]
  have HP := Lib.hid hpost
  clear hb0 g0 g1 hW0 hpost hnc hS hM hz hc hR
  go_enter Try.func99, Try.ntmps99
  go_upto_region 1 with (fail)
  rw [← HW0.out]
  go_wp2_with fail
  refine wp_region_late (fun w' => w'.cell? ⟨w.heap.size, 0, none⟩ = some (.bool an) ∧ w'.cell? ⟨w.heap.size, 1, none⟩ = some (.slice aa p ca) ∧ w'.cell? ⟨w.heap.size + 1, 0, none⟩ = some (.bool bn) ∧ w'.cell? ⟨w.heap.size + 1, 1, none⟩ = some (.slice ab q cb)) (fun j => decide (j = 5)) (by kernel_rfl) ⟨c00, c01, c10, c11⟩ (fun hHeld => ?_)
  refine wpAnyD_take 0 (v := ?_) (by kernel_rfl) (by kernel_rfl) rfl (by kernel_rfl) (by kernel_rfl) (fun _ _ _ h => h) (Or.inl ⟨by rfl, ?_⟩) (by assumption) ?_
  rotate_left
  · (intro wq hSq; (try dsimp only at hSq); go_simp; try with_reducible rfl)
  try simp only [Act.put, List.setIfInBounds_toArray, List.set_cons_zero, List.set_cons_succ]
  refine wpAnyD_take 1 (v := ?_) (by kernel_rfl) (by kernel_rfl) rfl (by kernel_rfl) (by kernel_rfl) (fun _ _ _ h => h) (Or.inl ⟨by rfl, ?_⟩) (by assumption) ?_
  rotate_left
  · (intro wq hSq; (try dsimp only at hSq); go_simp; try with_reducible rfl)
  try simp only [Act.put, List.setIfInBounds_toArray, List.set_cons_zero, List.set_cons_succ]
  have hdd := ((Below.refl W0.heap.size W0).drew)
  have hna := HNA.out.drew
  have hnc := HNC.out.drew
  have HHA : Hid (World.numH W0.drew (.slice aa p ca) A) := hna
  have HHC : Hid (World.numH W0.drew (.slice ab q cb) C) := hnc
  generalize W0.drew = X0 at hdd HHA HHC hHeld ⊢
  have HDD := Lib.hid hdd
  clear hna hnc hdd c00 c01 c10 c11 f00 f01 f10 f11
  refine wpAnyD_two 2 4 (by kernel_rfl) rfl rfl (fun K hK => ?_) (fun K hK => ?_)
  · go_simp
    go_at_call 113
    (with_reducible refine (HNEG.out _ _ HHC.out).mono ?_)
    rintro e u1 ⟨vu1, rfl, hnu1, hbu⟩
    obtain ⟨au1, Lu1, cu1, eu1⟩ : ∃ a L c, vu1 = .slice a L c := by obtain ⟨x, y, h⟩ := reads_len hnu1; exact ⟨x, _, y, h⟩
    subst eu1
    have hbx := below_via HDD.out hbu
    have HD1 := Lib.hid hbx
    have HF1A := Lib.hid (numH_below HHA.out hbu)
    have HF1B := Lib.hid (numH_below HHC.out hbu)
    have HF1u1 := Lib.hid hnu1
    refine hK.out _ _ (hcx.out _ hbx) (fun hHeld1 => ?_)
    clear hbu hbx hnu1 hK K hHeld
    try simp only [Act.put, List.setIfInBounds_toArray, List.set_cons_zero, List.set_cons_succ]
    refine wpAnyD_two 3 4 (by kernel_rfl) rfl rfl (fun K hK => ?_) (fun K hK => ?_)
    · go_simp
      go_at_call 76
      (with_reducible refine (HADD.out _ _ _ HF1A.out HF1u1.out).mono ?_)
      rintro e u2 ⟨vu2, rfl, hnu2, hbu⟩
      obtain ⟨au2, Lu2, cu2, eu2⟩ : ∃ a L c, vu2 = .slice a L c := by obtain ⟨x, y, h⟩ := reads_len hnu2; exact ⟨x, _, y, h⟩
      subst eu2
      have hbx := below_via HD1.out hbu
      have HD2 := Lib.hid hbx
      have HF2A := Lib.hid (numH_below HF1A.out hbu)
      have HF2B := Lib.hid (numH_below HF1B.out hbu)
      have HF2u1 := Lib.hid (numH_below HF1u1.out hbu)
      have HF2u2 := Lib.hid hnu2
      refine hK.out _ _ (hcx.out _ hbx) (fun hHeld2 => ?_)
      clear hbu hbx hnu2 hK K hHeld1
      try simp only [Act.put, List.setIfInBounds_toArray, List.set_cons_zero, List.set_cons_succ]
      refine wpAnyD_keep 4 (by kernel_rfl) rfl (fun K hK => ?_)
      go_simp
      have hbx : Below W0.heap.size W0 (u2.alloc (.cells #[.bool false, .slice none 0 0] 77)) := HD2.out.alloc HD2.out.size _
      have hpx : (u2.alloc (.cells #[.bool false, .slice none 0 0] 77)).heap[u2.heap.size]? = some (.cells #[.bool false, .slice none 0 0] 77) := heap_alloc_new u2 _
      have hbd : Below u2.heap.size u2 (u2.alloc (.cells #[.bool false, .slice none 0 0] 77)) := (Below.refl _ _).alloc (Nat.le_refl _) _
      have HD3 := Lib.hid hbx
      have HP3 := Lib.hid hpx
      have HF3A := Lib.hid (numH_below HF2A.out hbd)
      have HF3B := Lib.hid (numH_below HF2B.out hbd)
      have HF3u1 := Lib.hid (numH_below HF2u1.out hbd)
      have HF3u2 := Lib.hid (numH_below HF2u2.out hbd)
      refine hK.out _ _ (hcx.out _ hbx) (fun hHeld3 => ?_)
      clear hbd hbx hpx hK K hHeld2
      try simp only [Act.put, List.setIfInBounds_toArray, List.set_cons_zero, List.set_cons_succ]
      generalize u2.alloc (.cells #[.bool false, .slice none 0 0] 77) = x3 at HD3 HP3 HF3A HF3B HF3u1 HF3u2 ⊢
      have hPz : W0.heap.size ≤ u2.heap.size := by first | exact Nat.le_refl _ | exact HD2.out.size
      obtain ⟨d0, d1, fz0, fz1⟩ := num_cells HP3.out
      refine wpAnyD_step 5 (by kernel_rfl) rfl rfl (fun K hK => ?_)
      go_simp
      refine hK.out _ _ ?_
      clear hK K hHeld3 d0 d1 fz0 fz1
      try simp only [Act.put, List.setIfInBounds_toArray, List.set_cons_zero, List.set_cons_succ]
      refine wpAnyD_end (by kernel_rfl) ?_
      have m2 := num_set HP3.out (.bool S) (.slice au2 Lu2 cu2)
      have hb9 : Below W0.heap.size W0 ((x3.setCell ⟨u2.heap.size, 0, none⟩ (.bool S)).setCell ⟨u2.heap.size, 1, none⟩ (.slice au2 Lu2 cu2)) := (HD3.out.setCell hPz _).setCell hPz _
      have hL : Lu2 = (hw M).length := by
        obtain ⟨x, y, e⟩ := reads_len HF3u2.out
        injection e with _ e2 _
        rw [e2, List.length_map]
      obtain ⟨d20, d21, -, -⟩ := num_cells m2
      clear m2
      generalize (x3.setCell ⟨u2.heap.size, 0, none⟩ (.bool S)).setCell ⟨u2.heap.size, 1, none⟩ (.slice au2 Lu2 cu2) = W9 at d20 d21 hb9 ⊢
      have HB9 := Lib.hid (HB0.out.trans (hb9.mono HB0.out.size))
      have hM : (M = 0 ∧ Lu2 = 0) ∨ (M ≠ 0 ∧ 0 < Lu2) := by
        have h3 := hw_pos (n := M)
        by_cases h : M = 0
        · left; exact ⟨h, by rw [hL, h]; rfl⟩
        · right; exact ⟨h, by rw [hL]; exact h3.2 h⟩
      have HRR2 := HRR.out
      clear hb9 hL
      cases S with
      | true =>
        have hRR : R = -1 := by rw [HRR2]; rfl
        subst hRR
        clear hM HRR2
        go_wp2
        rw [HP.out]
        exact ⟨rfl, HB9.out⟩
      | false =>
        rcases hM with ⟨hM0, hL0⟩ | ⟨hM0, hL0⟩
        · have hRR : R = 0 := by rw [HRR2, hM0]; rfl
          subst hL0 hRR
          clear HRR2 hM0
          have t0 : ¬ (0 : Int) < ((0 : Nat) : Int) := by omega
          go_wp2
          rw [HP.out]
          exact ⟨rfl, HB9.out⟩
        · have hRR : R = 1 := by rw [HRR2, if_neg (by decide), if_neg hM0]
          subst hRR
          clear HRR2 hM0
          have t0 : (0 : Int) < (Lu2 : Int) := by omega
          go_wp2
          rw [HP.out]
          exact ⟨rfl, HB9.out⟩
    · go_simp
      have hbx : Below W0.heap.size W0 (u1.alloc (.cells #[.bool false, .slice none 0 0] 77)) := HD1.out.alloc HD1.out.size _
      have hpx : (u1.alloc (.cells #[.bool false, .slice none 0 0] 77)).heap[u1.heap.size]? = some (.cells #[.bool false, .slice none 0 0] 77) := heap_alloc_new u1 _
      have hbd : Below u1.heap.size u1 (u1.alloc (.cells #[.bool false, .slice none 0 0] 77)) := (Below.refl _ _).alloc (Nat.le_refl _) _
      have HD2 := Lib.hid hbx
      have HP2 := Lib.hid hpx
      have HF2A := Lib.hid (numH_below HF1A.out hbd)
      have HF2B := Lib.hid (numH_below HF1B.out hbd)
      have HF2u1 := Lib.hid (numH_below HF1u1.out hbd)
      refine hK.out _ _ (hcx.out _ hbx) (fun hHeld2 => ?_)
      clear hbd hbx hpx hK K hHeld1
      try simp only [Act.put, List.setIfInBounds_toArray, List.set_cons_zero, List.set_cons_succ]
      generalize u1.alloc (.cells #[.bool false, .slice none 0 0] 77) = x2 at HD2 HP2 HF2A HF2B HF2u1 ⊢
      refine wpAnyD_keep 3 (by kernel_rfl) rfl (fun K hK => ?_)
      go_simp
      go_at_call 76
      (with_reducible refine (HADD.out _ _ _ HF2A.out HF2u1.out).mono ?_)
      rintro e u3 ⟨vu3, rfl, hnu3, hbu⟩
      obtain ⟨au3, Lu3, cu3, eu3⟩ : ∃ a L c, vu3 = .slice a L c := by obtain ⟨x, y, h⟩ := reads_len hnu3; exact ⟨x, _, y, h⟩
      subst eu3
      have hbx := below_via HD2.out hbu
      have HD3 := Lib.hid hbx
      have HF3A := Lib.hid (numH_below HF2A.out hbu)
      have HF3B := Lib.hid (numH_below HF2B.out hbu)
      have HF3u1 := Lib.hid (numH_below HF2u1.out hbu)
      have HF3u3 := Lib.hid hnu3
      have HP3 := Lib.hid ((hbu.block _ (lt_of_heap HP2.out)).trans HP2.out)
      refine hK.out _ _ (hcx.out _ hbx) (fun hHeld3 => ?_)
      clear hbu hbx hnu3 hK K hHeld2
      try simp only [Act.put, List.setIfInBounds_toArray, List.set_cons_zero, List.set_cons_succ]
      have hPz : W0.heap.size ≤ u1.heap.size := by first | exact Nat.le_refl _ | exact HD1.out.size
      obtain ⟨d0, d1, fz0, fz1⟩ := num_cells HP3.out
      refine wpAnyD_step 5 (by kernel_rfl) rfl rfl (fun K hK => ?_)
      go_simp
      refine hK.out _ _ ?_
      clear hK K hHeld3 d0 d1 fz0 fz1
      try simp only [Act.put, List.setIfInBounds_toArray, List.set_cons_zero, List.set_cons_succ]
      refine wpAnyD_end (by kernel_rfl) ?_
      have m2 := num_set HP3.out (.bool S) (.slice au3 Lu3 cu3)
      have hb9 : Below W0.heap.size W0 ((u3.setCell ⟨u1.heap.size, 0, none⟩ (.bool S)).setCell ⟨u1.heap.size, 1, none⟩ (.slice au3 Lu3 cu3)) := (HD3.out.setCell hPz _).setCell hPz _
      have hL : Lu3 = (hw M).length := by
        obtain ⟨x, y, e⟩ := reads_len HF3u3.out
        injection e with _ e2 _
        rw [e2, List.length_map]
      obtain ⟨d20, d21, -, -⟩ := num_cells m2
      clear m2
      generalize (u3.setCell ⟨u1.heap.size, 0, none⟩ (.bool S)).setCell ⟨u1.heap.size, 1, none⟩ (.slice au3 Lu3 cu3) = W9 at d20 d21 hb9 ⊢
      have HB9 := Lib.hid (HB0.out.trans (hb9.mono HB0.out.size))
      have hM : (M = 0 ∧ Lu3 = 0) ∨ (M ≠ 0 ∧ 0 < Lu3) := by
        have h3 := hw_pos (n := M)
        by_cases h : M = 0
        · left; exact ⟨h, by rw [hL, h]; rfl⟩
        · right; exact ⟨h, by rw [hL]; exact h3.2 h⟩
      have HRR2 := HRR.out
      clear hb9 hL
      cases S with
      | true =>
        have hRR : R = -1 := by rw [HRR2]; rfl
        subst hRR
        clear hM HRR2
        go_wp2
        rw [HP.out]
        exact ⟨rfl, HB9.out⟩
      | false =>
        rcases hM with ⟨hM0, hL0⟩ | ⟨hM0, hL0⟩
        · have hRR : R = 0 := by rw [HRR2, hM0]; rfl
          subst hL0 hRR
          clear HRR2 hM0
          have t0 : ¬ (0 : Int) < ((0 : Nat) : Int) := by omega
          go_wp2
          rw [HP.out]
          exact ⟨rfl, HB9.out⟩
        · have hRR : R = 1 := by rw [HRR2, if_neg (by decide), if_neg hM0]
          subst hRR
          clear HRR2 hM0
          have t0 : (0 : Int) < (Lu3 : Int) := by omega
          go_wp2
          rw [HP.out]
          exact ⟨rfl, HB9.out⟩
  · go_simp
    have hbx : Below W0.heap.size W0 (X0.alloc (.cells #[.bool false, .slice none 0 0] 77)) := HDD.out.alloc HDD.out.size _
    have hpx : (X0.alloc (.cells #[.bool false, .slice none 0 0] 77)).heap[X0.heap.size]? = some (.cells #[.bool false, .slice none 0 0] 77) := heap_alloc_new X0 _
    have hbd : Below X0.heap.size X0 (X0.alloc (.cells #[.bool false, .slice none 0 0] 77)) := (Below.refl _ _).alloc (Nat.le_refl _) _
    have HD1 := Lib.hid hbx
    have HP1 := Lib.hid hpx
    have HF1A := Lib.hid (numH_below HHA.out hbd)
    have HF1B := Lib.hid (numH_below HHC.out hbd)
    refine hK.out _ _ (hcx.out _ hbx) (fun hHeld1 => ?_)
    clear hbd hbx hpx hK K hHeld
    try simp only [Act.put, List.setIfInBounds_toArray, List.set_cons_zero, List.set_cons_succ]
    generalize X0.alloc (.cells #[.bool false, .slice none 0 0] 77) = x1 at HD1 HP1 HF1A HF1B ⊢
    refine wpAnyD_keep 2 (by kernel_rfl) rfl (fun K hK => ?_)
    go_simp
    go_at_call 113
    (with_reducible refine (HNEG.out _ _ HF1B.out).mono ?_)
    rintro e u4 ⟨vu4, rfl, hnu4, hbu⟩
    obtain ⟨au4, Lu4, cu4, eu4⟩ : ∃ a L c, vu4 = .slice a L c := by obtain ⟨x, y, h⟩ := reads_len hnu4; exact ⟨x, _, y, h⟩
    subst eu4
    have hbx := below_via HD1.out hbu
    have HD2 := Lib.hid hbx
    have HF2A := Lib.hid (numH_below HF1A.out hbu)
    have HF2B := Lib.hid (numH_below HF1B.out hbu)
    have HF2u4 := Lib.hid hnu4
    have HP2 := Lib.hid ((hbu.block _ (lt_of_heap HP1.out)).trans HP1.out)
    refine hK.out _ _ (hcx.out _ hbx) (fun hHeld2 => ?_)
    clear hbu hbx hnu4 hK K hHeld1
    try simp only [Act.put, List.setIfInBounds_toArray, List.set_cons_zero, List.set_cons_succ]
    refine wpAnyD_keep 3 (by kernel_rfl) rfl (fun K hK => ?_)
    go_simp
    go_at_call 76
    (with_reducible refine (HADD.out _ _ _ HF2A.out HF2u4.out).mono ?_)
    rintro e u5 ⟨vu5, rfl, hnu5, hbu⟩
    obtain ⟨au5, Lu5, cu5, eu5⟩ : ∃ a L c, vu5 = .slice a L c := by obtain ⟨x, y, h⟩ := reads_len hnu5; exact ⟨x, _, y, h⟩
    subst eu5
    have hbx := below_via HD2.out hbu
    have HD3 := Lib.hid hbx
    have HF3A := Lib.hid (numH_below HF2A.out hbu)
    have HF3B := Lib.hid (numH_below HF2B.out hbu)
    have HF3u4 := Lib.hid (numH_below HF2u4.out hbu)
    have HF3u5 := Lib.hid hnu5
    have HP3 := Lib.hid ((hbu.block _ (lt_of_heap HP2.out)).trans HP2.out)
    refine hK.out _ _ (hcx.out _ hbx) (fun hHeld3 => ?_)
    clear hbu hbx hnu5 hK K hHeld2
    try simp only [Act.put, List.setIfInBounds_toArray, List.set_cons_zero, List.set_cons_succ]
    have hPz : W0.heap.size ≤ X0.heap.size := by first | exact Nat.le_refl _ | exact HDD.out.size
    obtain ⟨d0, d1, fz0, fz1⟩ := num_cells HP3.out
    refine wpAnyD_step 5 (by kernel_rfl) rfl rfl (fun K hK => ?_)
    go_simp
    refine hK.out _ _ ?_
    clear hK K hHeld3 d0 d1 fz0 fz1
    try simp only [Act.put, List.setIfInBounds_toArray, List.set_cons_zero, List.set_cons_succ]
    refine wpAnyD_end (by kernel_rfl) ?_
    have m2 := num_set HP3.out (.bool S) (.slice au5 Lu5 cu5)
    have hb9 : Below W0.heap.size W0 ((u5.setCell ⟨X0.heap.size, 0, none⟩ (.bool S)).setCell ⟨X0.heap.size, 1, none⟩ (.slice au5 Lu5 cu5)) := (HD3.out.setCell hPz _).setCell hPz _
    have hL : Lu5 = (hw M).length := by
      obtain ⟨x, y, e⟩ := reads_len HF3u5.out
      injection e with _ e2 _
      rw [e2, List.length_map]
    obtain ⟨d20, d21, -, -⟩ := num_cells m2
    clear m2
    generalize (u5.setCell ⟨X0.heap.size, 0, none⟩ (.bool S)).setCell ⟨X0.heap.size, 1, none⟩ (.slice au5 Lu5 cu5) = W9 at d20 d21 hb9 ⊢
    have HB9 := Lib.hid (HB0.out.trans (hb9.mono HB0.out.size))
    have hM : (M = 0 ∧ Lu5 = 0) ∨ (M ≠ 0 ∧ 0 < Lu5) := by
      have h3 := hw_pos (n := M)
      by_cases h : M = 0
      · left; exact ⟨h, by rw [hL, h]; rfl⟩
      · right; exact ⟨h, by rw [hL]; exact h3.2 h⟩
    have HRR2 := HRR.out
    clear hb9 hL
    cases S with
    | true =>
      have hRR : R = -1 := by rw [HRR2]; rfl
      subst hRR
      clear hM HRR2
      go_wp2
      rw [HP.out]
      exact ⟨rfl, HB9.out⟩
    | false =>
      rcases hM with ⟨hM0, hL0⟩ | ⟨hM0, hL0⟩
      · have hRR : R = 0 := by rw [HRR2, hM0]; rfl
        subst hL0 hRR
        clear HRR2 hM0
        have t0 : ¬ (0 : Int) < ((0 : Nat) : Int) := by omega
        go_wp2
        rw [HP.out]
        exact ⟨rfl, HB9.out⟩
      · have hRR : R = 1 := by rw [HRR2, if_neg (by decide), if_neg hM0]
        subst hRR
        clear HRR2 hM0
        have t0 : (0 : Int) < (Lu5 : Int) := by omega
        go_wp2
        rw [HP.out]
        exact ⟨rfl, HB9.out⟩
end Go.Proofs.Ytkjlfjnncdkmlaa

/- Binary digits, comparisons: both. -/

/- Comparisons, negatives, absolute values and maxima: both. -/
namespace Go.Proofs.Ytkjlfjnncdkmlaa
set_option linter.all false
open Go.RowKit Go.Shelf Go.WideNum
set_option maxRecDepth 100000 in
set_option maxHeartbeats 8000000 in
theorem refCmp_any (na : Bool) (sa : ByteArray) (nb : Bool) (sb : ByteArray) (hsa : sa.size ≤ maxLen) (hsb : sb.size ≤ maxLen) (R E : Int) (h : cmpF na sa nb sb = (R, E)) (w : World) :
    Calls Try.prog 80 #[.agg #[.bool na, .string sa], .agg #[.bool nb, .string sb]] w fun e w' => e = .returned (.tuple #[.int .i64 R, .int .i64 E]) ∧ Below w.heap.size w w' := by
  obtain ⟨HPOST, hpost⟩ : ∃ X : Ending → World → Prop, X = fun e w' => e = .returned (.tuple #[.int .i64 R, .int .i64 E]) ∧ Below w.heap.size w w' := ⟨_, rfl⟩
  rw [← hpost]
  have HP := Lib.hid hpost
  clear hpost
  obtain ⟨oka, hoka⟩ : ∃ ok, ok = validB na sa := ⟨_, rfl⟩
  obtain ⟨okb, hokb⟩ : ∃ ok, ok = validB nb sb := ⟨_, rfl⟩
  have HVA := Lib.hid (refValid_wide na sa hsa oka hoka)
  have HVB := Lib.hid (refValid_wide nb sb hsb okb hokb)
  unfold cmpF at h
  rw [← hoka, ← hokb] at h
  have HOA := Lib.hid hoka
  have HOB := Lib.hid hokb
  have HH := Lib.hid h
  clear hoka hokb h
  obtain ⟨W0, hW0⟩ : ∃ W0, W0 = (w.alloc (.cells #[.bool na, .string sa] 42)).alloc (.cells #[.bool nb, .string sb] 42) := ⟨_, rfl⟩
  have g0 : W0.heap[w.heap.size]? = some (.cells #[.bool na, .string sa] 42) := by rw [hW0, Below.heap_alloc _ _ _ (by simp)]; exact heap_alloc_new w _
  have g1 : W0.heap[w.heap.size + 1]? = some (.cells #[.bool nb, .string sb] 42) := by rw [hW0]; exact alloc_last _ _ (by simp)
  have hb0 : Below w.heap.size w W0 := by rw [hW0]; exact (((Below.refl _ w).alloc (Nat.le_refl _) _).alloc (by simp) _)
  have HB0 := Lib.hid hb0
  have hcx : Hid (∀ W, Below W0.heap.size W0 W → W.cell? ⟨w.heap.size, 0, none⟩ = some (.bool na) ∧ W.cell? ⟨w.heap.size, 1, none⟩ = some (.string sa) ∧ W.cell? ⟨w.heap.size + 1, 0, none⟩ = some (.bool nb) ∧ W.cell? ⟨w.heap.size + 1, 1, none⟩ = some (.string sb)) :=
    fun W hb => keep4 ((hb.block _ (lt_of_heap g0)).trans g0) ((hb.block _ (lt_of_heap g1)).trans g1)
  have HW0 := Lib.hid hW0
  clear hb0 g0 g1 hW0
  obtain ⟨c00, c01, c10, c11⟩ := hcx.out W0 (Below.refl _ W0)
  go_enter Try.func80, Try.ntmps80
  go_upto_region 1 with (fail)
  rw [← HW0.out]
  go_wp2_with fail
  (with_reducible refine (HVA.out _).mono ?_)
  rintro e w1 ⟨rfl, hb1⟩
  have HB1 := Lib.hid hb1
  clear c00 c01 c10 c11 hb1
  obtain ⟨c00, c01, c10, c11⟩ := hcx.out w1 HB1.out
  cases oka with
  | false =>
    obtain ⟨rfl, rfl⟩ : R = 0 ∧ E = 2 := by
      have h : ((0 : Int), (2 : Int)) = (R, E) := HH.out
      injection h with h1 h2
      exact ⟨h1.symm, h2.symm⟩
    have HBW := Lib.hid (HB0.out.trans (HB1.out.mono HB0.out.size))
    clear c00 c01 c10 c11
    go_wp2
    rw [HP.out]
    exact ⟨rfl, HBW.out⟩
  | true =>
    go_wp2_with fail
    (with_reducible refine (HVB.out _).mono ?_)
    rintro e w2 ⟨rfl, hb2⟩
    have HB2 := Lib.hid (below_via HB1.out hb2)
    clear c00 c01 c10 c11 hb2
    cases okb with
    | false =>
      obtain ⟨rfl, rfl⟩ : R = 0 ∧ E = 2 := by
        have h : ((0 : Int), (2 : Int)) = (R, E) := HH.out
        injection h with h1 h2
        exact ⟨h1.symm, h2.symm⟩
      have HBW := Lib.hid (HB0.out.trans (HB2.out.mono HB0.out.size))
      go_wp2
      rw [HP.out]
      exact ⟨rfl, HBW.out⟩
    | true =>
      obtain ⟨l1, -, -, -⟩ := valid_spec na sa HOA.out.symm
      obtain ⟨l2, -, -, -⟩ := valid_spec nb sb HOB.out.symm
      have HINA := Lib.hid (in_any na sa HOA.out.symm)
      have HINB := Lib.hid (in_any nb sb HOB.out.symm)
      have hwa := hw_len129 l1
      have hwb := hw_len129 l2
      obtain ⟨rfl, rfl⟩ : R = cmpZ (zV na sa) (zV nb sb) ∧ E = 0 := by
        have h : (cmpZ (zV na sa) (zV nb sb), (0 : Int)) = (R, E) := by have h := HH.out; simpa using h
        injection h with h1 h2
        exact ⟨h1.symm, h2.symm⟩
      unfold zV at HP
      obtain ⟨A, eA⟩ : ∃ A, A = numB sa := ⟨_, rfl⟩
      obtain ⟨C, eC⟩ : ∃ C, C = numB sb := ⟨_, rfl⟩
      rw [← eA] at HP hwa HINA
      rw [← eC] at HP hwb HINB
      have HCM : Hid (∀ W va vb, World.numH W va A → World.numH W vb C → Calls Try.prog 99 #[.agg #[.bool na, va], .agg #[.bool nb, vb]] W fun e w' => e = .returned (.int .i64 (cmpZ (zOf na A) (zOf nb C))) ∧ Below W.heap.size W w') := fun W va vb h1 h2 => hcompare_any na A va nb C vb W h1 h2 (by omega) (by omega)
      obtain ⟨R, hR⟩ : ∃ R, R = cmpZ (zOf na A) (zOf nb C) := ⟨_, rfl⟩
      rw [← hR] at HCM HP
      clear eA eC l1 l2 hwa hwb hR HH
      obtain ⟨c00, c01, c10, c11⟩ := hcx.out w2 HB2.out
      go_wp2_with fail
      refine wp_region_late (fun w' => w'.cell? ⟨w.heap.size, 0, none⟩ = some (.bool na) ∧ w'.cell? ⟨w.heap.size, 1, none⟩ = some (.string sa) ∧ w'.cell? ⟨w.heap.size + 1, 0, none⟩ = some (.bool nb) ∧ w'.cell? ⟨w.heap.size + 1, 1, none⟩ = some (.string sb)) (fun _ => false) (by kernel_rfl) ⟨c00, c01, c10, c11⟩ (fun hHeld => ?_)
      refine wpAnyD_take 0 (v := ?_) (by kernel_rfl) (by kernel_rfl) rfl (by kernel_rfl) (by kernel_rfl) (fun _ _ _ h => h) (Or.inl ⟨by rfl, ?_⟩) (by assumption) ?_
      rotate_left
      · (intro wq hSq; (try dsimp only at hSq); go_simp; try with_reducible rfl)
      try simp only [Act.put, List.setIfInBounds_toArray, List.set_cons_zero, List.set_cons_succ]
      refine wpAnyD_take 2 (v := ?_) (by kernel_rfl) (by kernel_rfl) rfl (by kernel_rfl) (by kernel_rfl) (fun _ _ _ h => h) (Or.inl ⟨by rfl, ?_⟩) (by assumption) ?_
      rotate_left
      · (intro wq hSq; (try dsimp only at hSq); go_simp; try with_reducible rfl)
      try simp only [Act.put, List.setIfInBounds_toArray, List.set_cons_zero, List.set_cons_succ]
      clear c00 c01 c10 c11
      refine wpAnyD_keep 1 (by kernel_rfl) rfl (fun K hK => ?_)
      go_simp
      go_at_call 77
      (with_reducible refine (HINA.out _).mono ?_)
      rintro e u1 ⟨vu1, rfl, hnu1, hbu⟩
      obtain ⟨au1, Lu1, cu1, eu1⟩ : ∃ a L c, vu1 = .slice a L c := by obtain ⟨x, y, h⟩ := reads_len hnu1; exact ⟨x, _, y, h⟩
      subst eu1
      have HNu1 := Lib.hid hnu1
      have HB3 := Lib.hid (below_viaD HB2.out hbu)
      refine hK.out _ _ (hcx.out _ HB3.out) (fun hHeld1 => ?_)
      clear hbu hnu1 hK K hHeld
      try simp only [Act.put, List.setIfInBounds_toArray, List.set_cons_zero, List.set_cons_succ]
      refine wpAnyD_keep 3 (by kernel_rfl) rfl (fun K hK => ?_)
      go_simp
      go_at_call 77
      (with_reducible refine (HINB.out _).mono ?_)
      rintro e u2 ⟨vu2, rfl, hnu2, hbu⟩
      obtain ⟨au2, Lu2, cu2, eu2⟩ : ∃ a L c, vu2 = .slice a L c := by obtain ⟨x, y, h⟩ := reads_len hnu2; exact ⟨x, _, y, h⟩
      subst eu2
      have HNu2 := Lib.hid hnu2
      have HB4 := Lib.hid (below_via HB3.out hbu)
      have HNA2 := Lib.hid (numH_below HNu1.out hbu)
      refine hK.out _ _ (hcx.out _ HB4.out) (fun hHeld2 => ?_)
      clear hbu hnu2 hK K hHeld1
      try simp only [Act.put, List.setIfInBounds_toArray, List.set_cons_zero, List.set_cons_succ]
      refine wpAnyD_keep 4 (by kernel_rfl) rfl (fun K hK => ?_)
      go_simp
      go_at_call 99
      (with_reducible refine (HCM.out _ _ _ HNA2.out HNu2.out).mono ?_)
      rintro e u3 ⟨rfl, hbu⟩
      have HB5 := Lib.hid (below_via HB4.out hbu)
      refine hK.out _ _ (hcx.out _ HB5.out) (fun hHeld3 => ?_)
      clear hbu hK K hHeld2
      try simp only [Act.put, List.setIfInBounds_toArray, List.set_cons_zero, List.set_cons_succ]
      refine wpAnyD_takeW 5 (v := ?_) (by kernel_rfl) rfl (by kernel_rfl) (by kernel_rfl) (fun _ _ _ h => h) (Or.inl ⟨by rfl, ?_⟩) ?_
      rotate_left
      · (intro wq hSq; (try dsimp only at hSq); go_simp; try with_reducible rfl)
      try simp only [Act.put, List.setIfInBounds_toArray, List.set_cons_zero, List.set_cons_succ]
      refine wpAnyD_takeW 6 (v := ?_) (by kernel_rfl) rfl (by kernel_rfl) (by kernel_rfl) (fun _ _ _ h => h) (Or.inl ⟨by rfl, ?_⟩) ?_
      rotate_left
      · (intro wq hSq; (try dsimp only at hSq); go_simp; try with_reducible rfl)
      try simp only [Act.put, List.setIfInBounds_toArray, List.set_cons_zero, List.set_cons_succ]
      refine wpAnyD_end (by kernel_rfl) ?_
      have HBW := Lib.hid (HB0.out.trans (HB5.out.mono HB0.out.size))
      go_wp2
      rw [HP.out]
      exact ⟨rfl, HBW.out⟩
def absF (neg : Bool) (s : ByteArray) : Bool × ByteArray × Int := if validB neg s then (false, s, 0) else (false, ⟨#[]⟩, 2)
set_option maxRecDepth 100000 in
set_option maxHeartbeats 8000000 in
theorem refAbs_any (neg : Bool) (s : ByteArray) (hs : s.size ≤ maxLen) (fb : Bool) (ft : ByteArray) (E : Int) (h : absF neg s = (fb, ft, E)) (w : World) :
    Calls Try.prog 79 #[.agg #[.bool neg, .string s]] w fun e w' => e = .returned (.tuple #[.agg #[.bool fb, .string ft], .int .i64 E]) ∧ Below w.heap.size w w' := by
  obtain ⟨HPOST, hpost⟩ : ∃ X : Ending → World → Prop, X = fun e w' => e = .returned (.tuple #[.agg #[.bool fb, .string ft], .int .i64 E]) ∧ Below w.heap.size w w' := ⟨_, rfl⟩
  rw [← hpost]
  have HP := Lib.hid hpost
  clear hpost
  have hs63 : s.size ≤ 9223372036854775807 := hs
  obtain ⟨ok, hok⟩ : ∃ ok, ok = validB neg s := ⟨_, rfl⟩
  have HV : Hid (∀ W : World, Calls Try.prog 75 #[.agg #[.bool neg, .string s]] W fun e w' => e = .returned (.bool ok) ∧ Below W.heap.size W w') := fun W => by rw [hok]; exact refValid_wide neg s hs _ rfl W
  unfold absF at h
  rw [← hok] at h
  have HOK := Lib.hid hok
  have HH := Lib.hid h
  clear hok h
  obtain ⟨W0, hW0⟩ : ∃ W0, W0 = (w.alloc (.cells #[.bool neg, .string s] 42)).alloc (.cells #[.bool false, .string ⟨#[]⟩] 42) := ⟨_, rfl⟩
  have g0 : W0.heap[w.heap.size]? = some (.cells #[.bool neg, .string s] 42) := by rw [hW0, Below.heap_alloc _ _ _ (by simp)]; exact heap_alloc_new w _
  have g1 : W0.heap[w.heap.size + 1]? = some (.cells #[.bool false, .string ⟨#[]⟩] 42) := by rw [hW0]; exact alloc_last _ _ (by simp)
  have hb0 : Below w.heap.size w W0 := by rw [hW0]; exact (((Below.refl _ w).alloc (Nat.le_refl _) _).alloc (by simp) _)
  have HB0 := Lib.hid hb0
  have HG0 := Lib.hid g0
  have HG1 := Lib.hid g1
  have HW0 := Lib.hid hW0
  obtain ⟨c0, c1, f0⟩ := wide_cells g0
  clear hb0 g0 g1 hW0
  go_enter Try.func79, Try.ntmps79
  go_upto_region 1 with (fail)
  rw [← HW0.out]
  go_wp2_with fail
  (with_reducible refine (HV.out _).mono ?_)
  rintro e w1 ⟨rfl, hb1⟩
  have HK0 := Lib.hid (wide_hold (w := W0) HG0.out hb1)
  have HK1 := Lib.hid (wide_hold (w := W0) HG1.out hb1)
  have HB1 := Lib.hid (HB0.out.trans (hb1.mono HB0.out.size))
  clear c0 c1 f0 hb1
  obtain ⟨c0, c1, f0⟩ := wide_cells HK0.out
  obtain ⟨d0, d1, f1⟩ := wide_cells HK1.out
  cases ok with
  | false =>
    obtain ⟨rfl, rfl, rfl⟩ : fb = false ∧ ft = ⟨#[]⟩ ∧ E = 2 := by
      have h : (false, (⟨#[]⟩ : ByteArray), (2 : Int)) = (fb, ft, E) := HH.out
      injection h with h1 h2
      injection h2 with h2 h3
      exact ⟨h1.symm, h2.symm, h3.symm⟩
    clear HH c0 c1 f0
    go_wp2
    have m2 := wide_set HK1.out false ⟨#[]⟩
    have hb9 := below_set2 (p := w.heap.size + 1) HB1.out (by omega) false ⟨#[]⟩
    clear d0 d1 f1
    obtain ⟨d20, d21, -⟩ := wide_cells m2
    clear m2
    generalize (w1.setCell ⟨w.heap.size + 1, 0, none⟩ (.bool false)).setCell ⟨w.heap.size + 1, 1, none⟩ (.string ⟨#[]⟩) = W9 at d20 d21 hb9 ⊢
    rw [HP.out]
    exact bodyPost_ret (v := .tuple #[.agg #[.bool false, .string ⟨#[]⟩], .int .i64 2]) (by simp [results, Try.results79, go_sem, d20, d21]) rfl ⟨rfl, hb9⟩
  | true =>
    obtain ⟨rfl, rfl, rfl⟩ : fb = false ∧ ft = s ∧ E = 0 := by
      have h : (false, s, (0 : Int)) = (fb, ft, E) := by have h := HH.out; simpa using h
      injection h with h1 h2
      injection h2 with h2 h3
      exact ⟨h1.symm, h2.symm, h3.symm⟩
    clear HH
    go_wp2
    have m2 := wide_set HK1.out false ft
    have hb9 := below_set2 (p := w.heap.size + 1) HB1.out (by omega) false ft
    clear d0 d1 f1
    obtain ⟨d20, d21, -⟩ := wide_cells m2
    clear m2
    generalize (w1.setCell ⟨w.heap.size + 1, 0, none⟩ (.bool false)).setCell ⟨w.heap.size + 1, 1, none⟩ (.string ft) = W9 at d20 d21 hb9 ⊢
    rw [HP.out]
    exact bodyPost_ret (v := .tuple #[.agg #[.bool false, .string ft], .int .i64 0]) (by simp [results, Try.results79, go_sem, d20, d21]) rfl ⟨rfl, hb9⟩
def maxF (na : Bool) (sa : ByteArray) (nb : Bool) (sb : ByteArray) : Bool × ByteArray × Int := match cmpF na sa nb sb with
  | (c, E) => if E = 0 then (if c < 0 then (nb, sb, 0) else (na, sa, 0)) else (false, ⟨#[]⟩, E)
theorem Cmp_res (na : Bool) (sa : ByteArray) (nb : Bool) (sb : ByteArray) (hsa : sa.size ≤ maxLen) (hsb : sb.size ≤ maxLen) (R E : Int) (h : cmpF na sa nb sb = (R, E)) (w : World) :
    Calls Try.prog 95 #[.agg #[.bool na, .string sa], .agg #[.bool nb, .string sb]] w fun e w' => e = .returned (.tuple #[.int .i64 R, .int .i64 E]) ∧ Below w.heap.size w w' := by
  have := Cmp_any na sa nb sb hsa hsb w
  rwa [h] at this
set_option maxRecDepth 100000 in
set_option maxHeartbeats 8000000 in
theorem Max_any (na : Bool) (sa : ByteArray) (nb : Bool) (sb : ByteArray) (hsa : sa.size ≤ maxLen) (hsb : sb.size ≤ maxLen) (w : World) :
    Calls Try.prog 74 #[.agg #[.bool na, .string sa], .agg #[.bool nb, .string sb]] w fun e w' => e = .returned (.tuple #[.agg #[.bool (maxF na sa nb sb).1, .string (maxF na sa nb sb).2.1], .int .i64 (maxF na sa nb sb).2.2]) ∧ Below w.heap.size w w' := by
  obtain ⟨HPOST, hpost⟩ : ∃ X : Ending → World → Prop, X = fun e w' => e = .returned (.tuple #[.agg #[.bool (maxF na sa nb sb).1, .string (maxF na sa nb sb).2.1], .int .i64 (maxF na sa nb sb).2.2]) ∧ Below w.heap.size w w' := ⟨_, rfl⟩
  rw [← hpost]
  have HP := Lib.hid hpost
  clear hpost
  obtain ⟨c, E, hc⟩ : ∃ c E, cmpF na sa nb sb = (c, E) := ⟨_, _, rfl⟩
  have HC := Lib.hid (Cmp_res na sa nb sb hsa hsb c E hc)
  have HH0 : Hid (maxF na sa nb sb = if E = 0 then (if c < 0 then (nb, sb, 0) else (na, sa, 0)) else (false, ⟨#[]⟩, E)) := by show _ = _; unfold maxF; rw [hc]
  have hE : E = 0 ∨ E = 2 := by
    unfold cmpF at hc
    split at hc <;> (injection hc with _ h2; omega)
  clear hc
  obtain ⟨W0, hW0⟩ : ∃ W0, W0 = ((w.alloc (.cells #[.bool na, .string sa] 42)).alloc (.cells #[.bool nb, .string sb] 42)).alloc (.cells #[.bool false, .string ⟨#[]⟩] 42) := ⟨_, rfl⟩
  have g0 : W0.heap[w.heap.size]? = some (.cells #[.bool na, .string sa] 42) := by rw [hW0, Below.heap_alloc _ _ _ (by simp; omega), Below.heap_alloc _ _ _ (by simp)]; exact heap_alloc_new w _
  have g1 : W0.heap[w.heap.size + 1]? = some (.cells #[.bool nb, .string sb] 42) := by rw [hW0, Below.heap_alloc _ _ _ (by simp)]; exact alloc_last _ _ (by simp)
  have g2 : W0.heap[w.heap.size + 1 + 1]? = some (.cells #[.bool false, .string ⟨#[]⟩] 42) := by rw [hW0]; exact alloc_last _ _ (by simp)
  have hb0 : Below w.heap.size w W0 := by rw [hW0]; exact ((((Below.refl _ w).alloc (Nat.le_refl _) _).alloc (by simp) _).alloc (by simp; omega) _)
  have HB0 := Lib.hid hb0
  have HG0 := Lib.hid g0
  have HG1 := Lib.hid g1
  have HG2 := Lib.hid g2
  have HW0 := Lib.hid hW0
  obtain ⟨c00, c01, f0⟩ := wide_cells g0
  obtain ⟨c10, c11, f1⟩ := wide_cells g1
  clear hb0 g0 g1 g2 hW0
  go_enter Try.func74, Try.ntmps74
  go_upto_region 1 with (fail)
  rw [← HW0.out]
  go_wp2_with fail
  (with_reducible refine (HC.out _).mono ?_)
  rintro e w1 ⟨rfl, hb1⟩
  have HK0 := Lib.hid (wide_hold (w := W0) HG0.out hb1)
  have HK1 := Lib.hid (wide_hold (w := W0) HG1.out hb1)
  have HK2 := Lib.hid (wide_hold (w := W0) HG2.out hb1)
  have HB1 := Lib.hid (HB0.out.trans (hb1.mono HB0.out.size))
  clear c00 c01 f0 c10 c11 f1 hb1
  obtain ⟨c00, c01, -⟩ := wide_cells HK0.out
  obtain ⟨c10, c11, -⟩ := wide_cells HK1.out
  obtain ⟨d0, d1, f2⟩ := wide_cells HK2.out
  rcases hE with rfl | rfl
  · by_cases hlt : c < 0
    · have HH : Hid (maxF na sa nb sb = (nb, sb, 0)) := by show _ = _; rw [HH0.out, if_pos rfl, if_pos hlt]
      clear HH0
      go_wp2
      have m2 := wide_set HK2.out nb sb
      have hb9 := below_set2 (p := w.heap.size + 1 + 1) HB1.out (by omega) nb sb
      clear d0 d1 f2
      obtain ⟨d20, d21, -⟩ := wide_cells m2
      clear m2
      generalize (w1.setCell ⟨w.heap.size + 1 + 1, 0, none⟩ (.bool nb)).setCell ⟨w.heap.size + 1 + 1, 1, none⟩ (.string sb) = W9 at d20 d21 hb9 ⊢
      rw [HP.out]
      exact bodyPost_ret (v := .tuple #[.agg #[.bool nb, .string sb], .int .i64 0]) (by simp [results, Try.results74, go_sem, d20, d21]) rfl ⟨by rw [HH.out], hb9⟩
    · have HH : Hid (maxF na sa nb sb = (na, sa, 0)) := by show _ = _; rw [HH0.out, if_pos rfl, if_neg hlt]
      clear HH0
      go_wp2
      have m2 := wide_set HK2.out na sa
      have hb9 := below_set2 (p := w.heap.size + 1 + 1) HB1.out (by omega) na sa
      clear d0 d1 f2
      obtain ⟨d20, d21, -⟩ := wide_cells m2
      clear m2
      generalize (w1.setCell ⟨w.heap.size + 1 + 1, 0, none⟩ (.bool na)).setCell ⟨w.heap.size + 1 + 1, 1, none⟩ (.string sa) = W9 at d20 d21 hb9 ⊢
      rw [HP.out]
      exact bodyPost_ret (v := .tuple #[.agg #[.bool na, .string sa], .int .i64 0]) (by simp [results, Try.results74, go_sem, d20, d21]) rfl ⟨by rw [HH.out], hb9⟩
  · have HH : Hid (maxF na sa nb sb = (false, ⟨#[]⟩, 2)) := by show _ = _; rw [HH0.out, if_neg (by decide)]
    clear HH0
    go_wp2
    have m2 := wide_set HK2.out false ⟨#[]⟩
    have hb9 := below_set2 (p := w.heap.size + 1 + 1) HB1.out (by omega) false ⟨#[]⟩
    clear d0 d1 f2
    obtain ⟨d20, d21, -⟩ := wide_cells m2
    clear m2
    generalize (w1.setCell ⟨w.heap.size + 1 + 1, 0, none⟩ (.bool false)).setCell ⟨w.heap.size + 1 + 1, 1, none⟩ (.string ⟨#[]⟩) = W9 at d20 d21 hb9 ⊢
    rw [HP.out]
    exact bodyPost_ret (v := .tuple #[.agg #[.bool false, .string ⟨#[]⟩], .int .i64 2]) (by simp [results, Try.results74, go_sem, d20, d21]) rfl ⟨by rw [HH.out], hb9⟩
end Go.Proofs.Ytkjlfjnncdkmlaa

/- The reference: an absolute value times 2. -/

/- The reference: quotient and rest of absolute values, bit by bit. -/

/- The reference: quotient and rest with signs, the rest from zero on. -/
namespace Go.Proofs.Ytkjlfjnncdkmlaa
set_option linter.all false
open Go.RowKit Go.Shelf Go.WideNum
theorem hold {w w' : World} {g : Nat} {o : Obj} (h : w.heap[g]? = some o) (hb : Below w.heap.size w w') : w'.heap[g]? = some o := (hb.block _ (lt_of_heap h)).trans h
end Go.Proofs.Ytkjlfjnncdkmlaa

/- The reference: division of forms. -/

/- The reference: the balanced remainder. -/

/- The reference: the quotient to the nearest. -/

/- Walks: the quotient to the nearest. -/
namespace Go.Proofs.Ytkjlfjnncdkmlaa
set_option linter.all false
open Go.RowKit Go.Shelf Go.WideNum
/-- What the general division does, for all numbers. -/
def DivAll : Prop := ∀ A C : Nat, C ≠ 0 → (wd A).length ≤ 200 → (wd C).length ≤ 200 → DivOK A C
end Go.Proofs.Ytkjlfjnncdkmlaa

/- Both programs: the rest by a word. -/

/- The reference: sums, differences and products of forms. -/
namespace Go.Proofs.Ytkjlfjnncdkmlaa
set_option linter.all false
open Go.RowKit Go.Shelf Go.WideNum
set_option maxRecDepth 100000 in
set_option maxHeartbeats 8000000 in
theorem refAdd_any (na : Bool) (sa : ByteArray) (nb : Bool) (sb : ByteArray) (hsa : sa.size ≤ maxLen) (hsb : sb.size ≤ maxLen) (fb : Bool) (ft : ByteArray) (E : Int) (hop : opF (fun a b => a + b) na sa nb sb = (.agg #[.bool fb, .string ft], E)) (w : World) :
    Calls Try.prog 40 #[.agg #[.bool na, .string sa], .agg #[.bool nb, .string sb]] w fun e w' => e = .returned (.tuple #[.agg #[.bool fb, .string ft], .int .i64 E]) ∧ Below w.heap.size w w' := by
  obtain ⟨HPOST, hpost⟩ : ∃ X : Ending → World → Prop, X = fun e w' => e = .returned (.tuple #[.agg #[.bool fb, .string ft], .int .i64 E]) ∧ Below w.heap.size w w' := ⟨_, rfl⟩
  rw [← hpost]
  obtain ⟨oka, hoka⟩ : ∃ ok, ok = validB na sa := ⟨_, rfl⟩
  obtain ⟨okb, hokb⟩ : ∃ ok, ok = validB nb sb := ⟨_, rfl⟩
  have HVA := Lib.hid (refValid_wide na sa hsa oka hoka)
  have HVB := Lib.hid (refValid_wide nb sb hsb okb hokb)
  have hno : (oka && okb) = false → (.agg #[.bool fb, .string ft], E) = (emptyW, (2 : Int)) := fun h => by
    rw [← hop]; unfold opF; rw [← hoka, ← hokb, h]; rfl
  have hyes : oka = true → okb = true → outZ ((fun a b => a + b) (zV na sa) (zV nb sb)) = .agg #[.bool fb, .string ft] ∧ errZ ((fun a b => a + b) (zV na sa) (zV nb sb)) = E := fun h1 h2 => by
    unfold opF at hop; rw [← hoka, ← hokb, h1, h2] at hop
    injection hop with e1 e2
    exact ⟨e1, e2⟩
  have HNO := Lib.hid hno
  have HYES := Lib.hid hyes
  have HA := Lib.hid hoka
  have HB := Lib.hid hokb
  clear hop hno hyes hoka hokb
  obtain ⟨W0, hW0⟩ : ∃ W0, W0 = ((w.alloc (.cells #[.bool na, .string sa] 42)).alloc (.cells #[.bool nb, .string sb] 42)).alloc (.cells #[.bool false, .string ⟨#[]⟩] 42) := ⟨_, rfl⟩
  have g0 : W0.heap[w.heap.size]? = some (.cells #[.bool na, .string sa] 42) := by rw [hW0, Below.heap_alloc _ _ _ (by simp; omega), Below.heap_alloc _ _ _ (by simp)]; exact heap_alloc_new w _
  have g1 : W0.heap[w.heap.size + 1]? = some (.cells #[.bool nb, .string sb] 42) := by rw [hW0, Below.heap_alloc _ _ _ (by simp)]; exact alloc_last _ _ (by simp)
  have g2 : W0.heap[w.heap.size + 1 + 1]? = some (.cells #[.bool false, .string ⟨#[]⟩] 42) := by rw [hW0]; exact alloc_last _ _ (by simp)
  have hb0 : Below w.heap.size w W0 := by rw [hW0]; exact ((((Below.refl _ w).alloc (Nat.le_refl _) _).alloc (by simp) _).alloc (by simp; omega) _)
  have HB0 := Lib.hid hb0
  have HG0 := Lib.hid g0
  have HG1 := Lib.hid g1
  have HG2 := Lib.hid g2
  obtain ⟨c00, c01, f0⟩ := wide_cells g0
  have HW0 := Lib.hid hW0
  clear hb0 g0 g1 g2 hW0
  go_enter Try.func40, Try.ntmps40
  go_upto_region 1 with (fail)
  rw [← HW0.out]
  rw [hpost]
  rw [← hpost]
  have HP := Lib.hid hpost
  clear hpost
  go_wp2_with fail
  (with_reducible refine (HVA.out _).mono ?_)
  rintro e w1 ⟨rfl, hb1⟩
  have HK0 := Lib.hid (wide_hold (w := W0) HG0.out hb1)
  have HK1 := Lib.hid (wide_hold (w := W0) HG1.out hb1)
  have HK2 := Lib.hid (wide_hold (w := W0) HG2.out hb1)
  have HBW1 := Lib.hid (HB0.out.trans (hb1.mono HB0.out.size))
  clear c00 c01 f0 hb1
  obtain ⟨c10, c11, f1⟩ := wide_cells HK1.out
  obtain ⟨e20, e21, f2⟩ := wide_cells HK2.out
  cases oka with
  | false =>
    have hz := HNO.out rfl
    injection hz with hz1 hz2
    unfold emptyW wideV at hz1
    injection hz1 with hz1
    injection hz1 with hz1
    injection hz1 with hz1 hz3
    injection hz1 with hz1
    injection hz3 with hz3 hz4
    injection hz3 with hz3
    subst hz1 hz2 hz3
    clear hz4 c10 c11 f1
    go_wp2
    have m2 := wide_set HK2.out false ⟨#[]⟩
    have hb9 := below_set2 (p := w.heap.size + 1 + 1) HBW1.out (by omega) false ⟨#[]⟩
    obtain ⟨d20, d21, -⟩ := wide_cells m2
    clear m2 e20 e21 f2
    generalize (w1.setCell ⟨w.heap.size + 1 + 1, 0, none⟩ (.bool false)).setCell ⟨w.heap.size + 1 + 1, 1, none⟩ (.string ⟨#[]⟩) = W9 at d20 d21 hb9 ⊢
    rw [HP.out]
    exact bodyPost_ret (v := .tuple #[.agg #[.bool false, .string ⟨#[]⟩], .int .i64 2]) (by simp [results, Try.results40, go_sem, d20, d21]) rfl ⟨rfl, hb9⟩
  | true =>
    go_wp2_with fail
    (with_reducible refine (HVB.out _).mono ?_)
    rintro e w2 ⟨rfl, hb2⟩
    have HM0 := Lib.hid (wide_hold (w := w1) HK0.out hb2)
    have HM1 := Lib.hid (wide_hold (w := w1) HK1.out hb2)
    have HM2 := Lib.hid (wide_hold (w := w1) HK2.out hb2)
    have HBW2 := Lib.hid (HBW1.out.trans (hb2.mono HBW1.out.size))
    clear c10 c11 f1 e20 e21 f2 hb2
    obtain ⟨e20, e21, f2⟩ := wide_cells HM2.out
    cases okb with
    | false =>
      have hz := HNO.out rfl
      injection hz with hz1 hz2
      unfold emptyW wideV at hz1
      injection hz1 with hz1
      injection hz1 with hz1
      injection hz1 with hz1 hz3
      injection hz1 with hz1
      injection hz3 with hz3 hz4
      injection hz3 with hz3
      subst hz1 hz2 hz3
      clear hz4
      go_wp2
      have m2 := wide_set HM2.out false ⟨#[]⟩
      have hb9 := below_set2 (p := w.heap.size + 1 + 1) HBW2.out (by omega) false ⟨#[]⟩
      obtain ⟨d20, d21, -⟩ := wide_cells m2
      clear m2 e20 e21 f2
      generalize (w2.setCell ⟨w.heap.size + 1 + 1, 0, none⟩ (.bool false)).setCell ⟨w.heap.size + 1 + 1, 1, none⟩ (.string ⟨#[]⟩) = W9 at d20 d21 hb9 ⊢
      rw [HP.out]
      exact bodyPost_ret (v := .tuple #[.agg #[.bool false, .string ⟨#[]⟩], .int .i64 2]) (by simp [results, Try.results40, go_sem, d20, d21]) rfl ⟨rfl, hb9⟩
    | true =>
      obtain ⟨l1, -, -, -⟩ := valid_spec na sa HA.out.symm
      obtain ⟨l2, -, -, -⟩ := valid_spec nb sb HB.out.symm
      have HINA := Lib.hid (in_any na sa HA.out.symm)
      have HINB := Lib.hid (in_any nb sb HB.out.symm)
      obtain ⟨hy1, hy2⟩ := HYES.out (by simp) (by simp)
      unfold zV at hy1 hy2
      have hwa := hw_len129 l1
      have hwb := hw_len129 l2
      obtain ⟨A, eA⟩ : ∃ A, A = numB sa := ⟨_, rfl⟩
      obtain ⟨C, eC⟩ : ∃ C, C = numB sb := ⟨_, rfl⟩
      rw [← eA] at hy1 hy2 hwa HINA
      rw [← eC] at hy1 hy2 hwb HINB
      clear eA eC l1 l2
      obtain ⟨S, hS⟩ : ∃ S, S = (sumS A na C nb && decide (sumN A na C nb ≠ 0)) := ⟨_, rfl⟩
      obtain ⟨M, hM⟩ : ∃ M, M = sumN A na C nb := ⟨_, rfl⟩
      have HADD : Hid (∀ W va vb, World.numH W va A → World.numH W vb C → Calls Try.prog 76 #[.agg #[.bool na, va], .agg #[.bool nb, vb]] W (SRet W S M)) := fun W va vb h1 h2 => by rw [hS, hM]; exact hadd_any na A va nb C vb W h1 h2 (by omega) (by omega)
      have hz : zOf S M = zOf na A + zOf nb C := by rw [hS, hM, zOf_and]; exact sum_z A na C nb
      have hML : (hw M).length ≤ 4001 := hw_len_sum (A := A) (C := C) (by omega) (by omega) (by rw [hM]; exact sumN_le _ _ _ _)
      have HOUT : Hid (∀ v W, World.numH W v M → Calls Try.prog 53 #[.agg #[.bool S, v]] W fun e w' => e = .returned (.tuple #[.agg #[.bool fb, .string ft], .int .i64 E]) ∧ Below W.heap.size W w') := fun v W h => hout_num S M (by omega) fb ft E (by rw [hz]; exact hy1) (by rw [hz]; exact hy2) v W h
      clear hS hM hz hML
      clear e20 e21 f2 hwa hwb hy1 hy2
      obtain ⟨c00, c01, -⟩ := wide_cells HM0.out
      obtain ⟨c10, c11, -⟩ := wide_cells HM1.out
      go_wp2_with fail
      refine wp_region_late (fun w' => w'.cell? ⟨w.heap.size, 0, none⟩ = some (.bool na) ∧ w'.cell? ⟨w.heap.size, 1, none⟩ = some (.string sa) ∧ w'.cell? ⟨w.heap.size + 1, 0, none⟩ = some (.bool nb) ∧ w'.cell? ⟨w.heap.size + 1, 1, none⟩ = some (.string sb)) (fun j => decide (j = 8)) (by kernel_rfl) ⟨c00, c01, c10, c11⟩ (fun hHeld => ?_)
      refine wpAnyD_take 0 (v := ?_) (by kernel_rfl) (by kernel_rfl) rfl (by kernel_rfl) (by kernel_rfl) (fun _ _ _ h => h) (Or.inl ⟨by rfl, ?_⟩) (by assumption) ?_
      rotate_left
      · (intro wq hSq; (try dsimp only at hSq); go_simp; try with_reducible rfl)
      try simp only [Act.put, List.setIfInBounds_toArray, List.set_cons_zero, List.set_cons_succ]
      refine wpAnyD_take 2 (v := ?_) (by kernel_rfl) (by kernel_rfl) rfl (by kernel_rfl) (by kernel_rfl) (fun _ _ _ h => h) (Or.inl ⟨by rfl, ?_⟩) (by assumption) ?_
      rotate_left
      · (intro wq hSq; (try dsimp only at hSq); go_simp; try with_reducible rfl)
      try simp only [Act.put, List.setIfInBounds_toArray, List.set_cons_zero, List.set_cons_succ]
      have HD := Lib.hid ((Below.refl w2.heap.size w2).drew)
      have HBD := Lib.hid (HBW2.out.drew)
      have HQ0 : Hid (w2.drew.heap[w.heap.size]? = some (.cells #[.bool na, .string sa] 42)) := HM0.out
      have HQ1 : Hid (w2.drew.heap[w.heap.size + 1]? = some (.cells #[.bool nb, .string sb] 42)) := HM1.out
      have HQ2 : Hid (w2.drew.heap[w.heap.size + 1 + 1]? = some (.cells #[.bool false, .string ⟨#[]⟩] 42)) := HM2.out
      clear c00 c01 c10 c11
      refine wpAnyD_keep 1 (by kernel_rfl) rfl (fun K hK => ?_)
      go_simp
      go_at_call 77
      (with_reducible refine (HINA.out _).mono ?_)
      rintro e w5 ⟨v5, rfl, hn5, hb5⟩
      obtain ⟨a5, L5, c5, rfl⟩ : ∃ a L c, v5 = .slice a L c := by obtain ⟨x, y, h⟩ := reads_len hn5; exact ⟨x, _, y, h⟩
      have hx0 := wide_hold (w := w2.drew) HQ0.out hb5
      have hx1 := wide_hold (w := w2.drew) HQ1.out hb5
      have hx2 := wide_hold (w := w2.drew) HQ2.out hb5
      have HBX0 := Lib.hid (HBD.out.trans (hb5.mono HBD.out.size))
      obtain ⟨j0, j1, -⟩ := wide_cells hx0
      obtain ⟨j2, j3, -⟩ := wide_cells hx1
      refine hK.out _ _ ⟨j0, j1, j2, j3⟩ (fun hHeld0 => ?_)
      have HX00 := Lib.hid hx0
      have HX01 := Lib.hid hx1
      have HX02 := Lib.hid hx2
      have HN0_n := Lib.hid hn5
      clear hb5 hn5 hx0 hx1 hx2 j0 j1 j2 j3 hK K hHeld
      try simp only [Act.put, List.setIfInBounds_toArray, List.set_cons_zero, List.set_cons_succ]
      refine wpAnyD_keep 3 (by kernel_rfl) rfl (fun K hK => ?_)
      go_simp
      go_at_call 77
      (with_reducible refine (HINB.out _).mono ?_)
      rintro e w6 ⟨v6, rfl, hn6, hb6⟩
      obtain ⟨a6, L6, c6, rfl⟩ : ∃ a L c, v6 = .slice a L c := by obtain ⟨x, y, h⟩ := reads_len hn6; exact ⟨x, _, y, h⟩
      have hx0 := wide_hold (w := w5) HX00.out hb6
      have hx1 := wide_hold (w := w5) HX01.out hb6
      have hx2 := wide_hold (w := w5) HX02.out hb6
      have HBX1 := Lib.hid (HBX0.out.trans (hb6.mono HBX0.out.size))
      obtain ⟨j0, j1, -⟩ := wide_cells hx0
      obtain ⟨j2, j3, -⟩ := wide_cells hx1
      refine hK.out _ _ ⟨j0, j1, j2, j3⟩ (fun hHeld1 => ?_)
      have HX10 := Lib.hid hx0
      have HX11 := Lib.hid hx1
      have HX12 := Lib.hid hx2
      have HN1_0 := Lib.hid (numH_below (HN0_n.out) hb6)
      have HN1_n := Lib.hid hn6
      clear hb6 hn6 hx0 hx1 hx2 j0 j1 j2 j3 hK K hHeld0
      try simp only [Act.put, List.setIfInBounds_toArray, List.set_cons_zero, List.set_cons_succ]
      refine wpAnyD_keep 4 (by kernel_rfl) rfl (fun K hK => ?_)
      go_simp
      go_at_call 76
      (with_reducible refine (HADD.out _ _ _ (HN1_0.out) (HN1_n.out)).mono ?_)
      rintro e w7 ⟨v7, rfl, hn7, hb7⟩
      obtain ⟨a7, L7, c7, rfl⟩ : ∃ a L c, v7 = .slice a L c := by obtain ⟨x, y, h⟩ := reads_len hn7; exact ⟨x, _, y, h⟩
      have hx0 := wide_hold (w := w6) HX10.out hb7
      have hx1 := wide_hold (w := w6) HX11.out hb7
      have hx2 := wide_hold (w := w6) HX12.out hb7
      have HBX2 := Lib.hid (HBX1.out.trans (hb7.mono HBX1.out.size))
      obtain ⟨j0, j1, -⟩ := wide_cells hx0
      obtain ⟨j2, j3, -⟩ := wide_cells hx1
      refine hK.out _ _ ⟨j0, j1, j2, j3⟩ (fun hHeld2 => ?_)
      have HX20 := Lib.hid hx0
      have HX21 := Lib.hid hx1
      have HX22 := Lib.hid hx2
      have HN2_0 := Lib.hid (numH_below (HN1_0.out) hb7)
      have HN2_1 := Lib.hid (numH_below (HN1_n.out) hb7)
      have HN2_n := Lib.hid hn7
      clear hb7 hn7 hx0 hx1 hx2 j0 j1 j2 j3 hK K hHeld1
      try simp only [Act.put, List.setIfInBounds_toArray, List.set_cons_zero, List.set_cons_succ]
      refine wpAnyD_keep 5 (by kernel_rfl) rfl (fun K hK => ?_)
      go_simp
      go_at_call 53
      (with_reducible refine (HOUT.out _ _ (HN2_n.out)).mono ?_)
      rintro e w8 ⟨rfl, hb8⟩
      have hx0 := wide_hold (w := w7) HX20.out hb8
      have hx1 := wide_hold (w := w7) HX21.out hb8
      have hx2 := wide_hold (w := w7) HX22.out hb8
      have HBX3 := Lib.hid (HBX2.out.trans (hb8.mono HBX2.out.size))
      obtain ⟨j0, j1, -⟩ := wide_cells hx0
      obtain ⟨j2, j3, -⟩ := wide_cells hx1
      refine hK.out _ _ ⟨j0, j1, j2, j3⟩ (fun hHeld3 => ?_)
      have HX30 := Lib.hid hx0
      have HX31 := Lib.hid hx1
      have HX32 := Lib.hid hx2
      have HN3_0 := Lib.hid (numH_below (HN2_0.out) hb8)
      have HN3_1 := Lib.hid (numH_below (HN2_1.out) hb8)
      have HN3_2 := Lib.hid (numH_below (HN2_n.out) hb8)
      clear hb8 hx0 hx1 hx2 j0 j1 j2 j3 hK K hHeld2
      try simp only [Act.put, List.setIfInBounds_toArray, List.set_cons_zero, List.set_cons_succ]
      refine wpAnyD_take 6 (v := ?_) (by kernel_rfl) (by kernel_rfl) rfl (by kernel_rfl) (by kernel_rfl) (fun _ _ _ h => h) (Or.inl ⟨by rfl, ?_⟩) (by assumption) ?_
      rotate_left
      · (intro wq hSq; (try dsimp only at hSq); go_simp; try with_reducible rfl)
      try simp only [Act.put, List.setIfInBounds_toArray, List.set_cons_zero, List.set_cons_succ]
      refine wpAnyD_take 7 (v := ?_) (by kernel_rfl) (by kernel_rfl) rfl (by kernel_rfl) (by kernel_rfl) (fun _ _ _ h => h) (Or.inl ⟨by rfl, ?_⟩) (by assumption) ?_
      rotate_left
      · (intro wq hSq; (try dsimp only at hSq); go_simp; try with_reducible rfl)
      try simp only [Act.put, List.setIfInBounds_toArray, List.set_cons_zero, List.set_cons_succ]
      obtain ⟨d0, d1, fz⟩ := wide_cells HX32.out
      refine wpAnyD_step 8 (by kernel_rfl) rfl rfl (fun K hK => ?_)
      go_simp
      refine hK.out _ _ ?_
      clear hK K hHeld3
      try simp only [Act.put, List.setIfInBounds_toArray, List.set_cons_zero, List.set_cons_succ]
      refine wpAnyD_takeW 9 (v := ?_) (by kernel_rfl) rfl (by kernel_rfl) (by kernel_rfl) (fun _ _ _ h => h) (Or.inl ⟨by rfl, ?_⟩) ?_
      rotate_left
      · (intro wq hSq; (try dsimp only at hSq); go_simp; try with_reducible rfl)
      try simp only [Act.put, List.setIfInBounds_toArray, List.set_cons_zero, List.set_cons_succ]
      refine wpAnyD_end (by kernel_rfl) ?_
      have m2 := wide_set HX32.out fb ft
      have hb9 := below_set2 (p := w.heap.size + 1 + 1) HBX3.out (by omega) fb ft
      clear d0 d1 fz
      obtain ⟨d20, d21, -⟩ := wide_cells m2
      clear m2
      generalize (w8.setCell ⟨w.heap.size + 1 + 1, 0, none⟩ (.bool fb)).setCell ⟨w.heap.size + 1 + 1, 1, none⟩ (.string ft) = W9 at d20 d21 hb9 ⊢
      go_wp2
      rw [HP.out]
      exact bodyPost_ret (v := .tuple #[.agg #[.bool fb, .string ft], .int .i64 E]) (by simp [results, Try.results40, go_sem, d20, d21]) rfl ⟨rfl, hb9⟩
set_option maxRecDepth 100000 in
set_option maxHeartbeats 8000000 in
theorem refMul_any (na : Bool) (sa : ByteArray) (nb : Bool) (sb : ByteArray) (hsa : sa.size ≤ maxLen) (hsb : sb.size ≤ maxLen) (fb : Bool) (ft : ByteArray) (E : Int) (hop : opF (fun a b => a * b) na sa nb sb = (.agg #[.bool fb, .string ft], E)) (w : World) :
    Calls Try.prog 41 #[.agg #[.bool na, .string sa], .agg #[.bool nb, .string sb]] w fun e w' => e = .returned (.tuple #[.agg #[.bool fb, .string ft], .int .i64 E]) ∧ Below w.heap.size w w' := by
  obtain ⟨HPOST, hpost⟩ : ∃ X : Ending → World → Prop, X = fun e w' => e = .returned (.tuple #[.agg #[.bool fb, .string ft], .int .i64 E]) ∧ Below w.heap.size w w' := ⟨_, rfl⟩
  rw [← hpost]
  obtain ⟨oka, hoka⟩ : ∃ ok, ok = validB na sa := ⟨_, rfl⟩
  obtain ⟨okb, hokb⟩ : ∃ ok, ok = validB nb sb := ⟨_, rfl⟩
  have HVA := Lib.hid (refValid_wide na sa hsa oka hoka)
  have HVB := Lib.hid (refValid_wide nb sb hsb okb hokb)
  have hno : (oka && okb) = false → (.agg #[.bool fb, .string ft], E) = (emptyW, (2 : Int)) := fun h => by
    rw [← hop]; unfold opF; rw [← hoka, ← hokb, h]; rfl
  have hyes : oka = true → okb = true → outZ ((fun a b => a * b) (zV na sa) (zV nb sb)) = .agg #[.bool fb, .string ft] ∧ errZ ((fun a b => a * b) (zV na sa) (zV nb sb)) = E := fun h1 h2 => by
    unfold opF at hop; rw [← hoka, ← hokb, h1, h2] at hop
    injection hop with e1 e2
    exact ⟨e1, e2⟩
  have HNO := Lib.hid hno
  have HYES := Lib.hid hyes
  have HA := Lib.hid hoka
  have HB := Lib.hid hokb
  clear hop hno hyes hoka hokb
  obtain ⟨W0, hW0⟩ : ∃ W0, W0 = ((w.alloc (.cells #[.bool na, .string sa] 42)).alloc (.cells #[.bool nb, .string sb] 42)).alloc (.cells #[.bool false, .string ⟨#[]⟩] 42) := ⟨_, rfl⟩
  have g0 : W0.heap[w.heap.size]? = some (.cells #[.bool na, .string sa] 42) := by rw [hW0, Below.heap_alloc _ _ _ (by simp; omega), Below.heap_alloc _ _ _ (by simp)]; exact heap_alloc_new w _
  have g1 : W0.heap[w.heap.size + 1]? = some (.cells #[.bool nb, .string sb] 42) := by rw [hW0, Below.heap_alloc _ _ _ (by simp)]; exact alloc_last _ _ (by simp)
  have g2 : W0.heap[w.heap.size + 1 + 1]? = some (.cells #[.bool false, .string ⟨#[]⟩] 42) := by rw [hW0]; exact alloc_last _ _ (by simp)
  have hb0 : Below w.heap.size w W0 := by rw [hW0]; exact ((((Below.refl _ w).alloc (Nat.le_refl _) _).alloc (by simp) _).alloc (by simp; omega) _)
  have HB0 := Lib.hid hb0
  have HG0 := Lib.hid g0
  have HG1 := Lib.hid g1
  have HG2 := Lib.hid g2
  obtain ⟨c00, c01, f0⟩ := wide_cells g0
  have HW0 := Lib.hid hW0
  clear hb0 g0 g1 g2 hW0
  go_enter Try.func41, Try.ntmps41
  go_upto_region 1 with (fail)
  rw [← HW0.out]
  rw [hpost]
  rw [← hpost]
  have HP := Lib.hid hpost
  clear hpost
  go_wp2_with fail
  (with_reducible refine (HVA.out _).mono ?_)
  rintro e w1 ⟨rfl, hb1⟩
  have HK0 := Lib.hid (wide_hold (w := W0) HG0.out hb1)
  have HK1 := Lib.hid (wide_hold (w := W0) HG1.out hb1)
  have HK2 := Lib.hid (wide_hold (w := W0) HG2.out hb1)
  have HBW1 := Lib.hid (HB0.out.trans (hb1.mono HB0.out.size))
  clear c00 c01 f0 hb1
  obtain ⟨c10, c11, f1⟩ := wide_cells HK1.out
  obtain ⟨e20, e21, f2⟩ := wide_cells HK2.out
  cases oka with
  | false =>
    have hz := HNO.out rfl
    injection hz with hz1 hz2
    unfold emptyW wideV at hz1
    injection hz1 with hz1
    injection hz1 with hz1
    injection hz1 with hz1 hz3
    injection hz1 with hz1
    injection hz3 with hz3 hz4
    injection hz3 with hz3
    subst hz1 hz2 hz3
    clear hz4 c10 c11 f1
    go_wp2
    have m2 := wide_set HK2.out false ⟨#[]⟩
    have hb9 := below_set2 (p := w.heap.size + 1 + 1) HBW1.out (by omega) false ⟨#[]⟩
    obtain ⟨d20, d21, -⟩ := wide_cells m2
    clear m2 e20 e21 f2
    generalize (w1.setCell ⟨w.heap.size + 1 + 1, 0, none⟩ (.bool false)).setCell ⟨w.heap.size + 1 + 1, 1, none⟩ (.string ⟨#[]⟩) = W9 at d20 d21 hb9 ⊢
    rw [HP.out]
    exact bodyPost_ret (v := .tuple #[.agg #[.bool false, .string ⟨#[]⟩], .int .i64 2]) (by simp [results, Try.results41, go_sem, d20, d21]) rfl ⟨rfl, hb9⟩
  | true =>
    go_wp2_with fail
    (with_reducible refine (HVB.out _).mono ?_)
    rintro e w2 ⟨rfl, hb2⟩
    have HM0 := Lib.hid (wide_hold (w := w1) HK0.out hb2)
    have HM1 := Lib.hid (wide_hold (w := w1) HK1.out hb2)
    have HM2 := Lib.hid (wide_hold (w := w1) HK2.out hb2)
    have HBW2 := Lib.hid (HBW1.out.trans (hb2.mono HBW1.out.size))
    clear c10 c11 f1 e20 e21 f2 hb2
    obtain ⟨e20, e21, f2⟩ := wide_cells HM2.out
    cases okb with
    | false =>
      have hz := HNO.out rfl
      injection hz with hz1 hz2
      unfold emptyW wideV at hz1
      injection hz1 with hz1
      injection hz1 with hz1
      injection hz1 with hz1 hz3
      injection hz1 with hz1
      injection hz3 with hz3 hz4
      injection hz3 with hz3
      subst hz1 hz2 hz3
      clear hz4
      go_wp2
      have m2 := wide_set HM2.out false ⟨#[]⟩
      have hb9 := below_set2 (p := w.heap.size + 1 + 1) HBW2.out (by omega) false ⟨#[]⟩
      obtain ⟨d20, d21, -⟩ := wide_cells m2
      clear m2 e20 e21 f2
      generalize (w2.setCell ⟨w.heap.size + 1 + 1, 0, none⟩ (.bool false)).setCell ⟨w.heap.size + 1 + 1, 1, none⟩ (.string ⟨#[]⟩) = W9 at d20 d21 hb9 ⊢
      rw [HP.out]
      exact bodyPost_ret (v := .tuple #[.agg #[.bool false, .string ⟨#[]⟩], .int .i64 2]) (by simp [results, Try.results41, go_sem, d20, d21]) rfl ⟨rfl, hb9⟩
    | true =>
      obtain ⟨l1, -, -, -⟩ := valid_spec na sa HA.out.symm
      obtain ⟨l2, -, -, -⟩ := valid_spec nb sb HB.out.symm
      have HINA := Lib.hid (in_any na sa HA.out.symm)
      have HINB := Lib.hid (in_any nb sb HB.out.symm)
      obtain ⟨hy1, hy2⟩ := HYES.out (by simp) (by simp)
      unfold zV at hy1 hy2
      have hwa := hw_len129 l1
      have hwb := hw_len129 l2
      obtain ⟨A, eA⟩ : ∃ A, A = numB sa := ⟨_, rfl⟩
      obtain ⟨C, eC⟩ : ∃ C, C = numB sb := ⟨_, rfl⟩
      rw [← eA] at hy1 hy2 hwa HINA
      rw [← eC] at hy1 hy2 hwb HINB
      clear eA eC l1 l2
      obtain ⟨S, hS⟩ : ∃ S, S = ((na != nb) && decide (A * C ≠ 0)) := ⟨_, rfl⟩
      obtain ⟨M, hM⟩ : ∃ M, M = A * C := ⟨_, rfl⟩
      have HADD : Hid (∀ W va vb, World.numH W va A → World.numH W vb C → Calls Try.prog 78 #[.agg #[.bool na, va], .agg #[.bool nb, vb]] W (SRet W S M)) := fun W va vb h1 h2 => by rw [hS, hM]; exact hmul_any na A va nb C vb W h1 h2 (by omega) (by omega)
      have hz : zOf S M = zOf na A * zOf nb C := by rw [hS, hM, zOf_and]; exact mul_z A na C nb
      have hML : (hw M).length ≤ 129 + 129 := by rw [hM]; exact hw_len_mul hwa hwb
      have HOUT : Hid (∀ v W, World.numH W v M → Calls Try.prog 53 #[.agg #[.bool S, v]] W fun e w' => e = .returned (.tuple #[.agg #[.bool fb, .string ft], .int .i64 E]) ∧ Below W.heap.size W w') := fun v W h => hout_num S M (by omega) fb ft E (by rw [hz]; exact hy1) (by rw [hz]; exact hy2) v W h
      clear hS hM hz hML
      clear e20 e21 f2 hwa hwb hy1 hy2
      obtain ⟨c00, c01, -⟩ := wide_cells HM0.out
      obtain ⟨c10, c11, -⟩ := wide_cells HM1.out
      go_wp2_with fail
      refine wp_region_late (fun w' => w'.cell? ⟨w.heap.size, 0, none⟩ = some (.bool na) ∧ w'.cell? ⟨w.heap.size, 1, none⟩ = some (.string sa) ∧ w'.cell? ⟨w.heap.size + 1, 0, none⟩ = some (.bool nb) ∧ w'.cell? ⟨w.heap.size + 1, 1, none⟩ = some (.string sb)) (fun j => decide (j = 8)) (by kernel_rfl) ⟨c00, c01, c10, c11⟩ (fun hHeld => ?_)
      refine wpAnyD_take 0 (v := ?_) (by kernel_rfl) (by kernel_rfl) rfl (by kernel_rfl) (by kernel_rfl) (fun _ _ _ h => h) (Or.inl ⟨by rfl, ?_⟩) (by assumption) ?_
      rotate_left
      · (intro wq hSq; (try dsimp only at hSq); go_simp; try with_reducible rfl)
      try simp only [Act.put, List.setIfInBounds_toArray, List.set_cons_zero, List.set_cons_succ]
      refine wpAnyD_take 2 (v := ?_) (by kernel_rfl) (by kernel_rfl) rfl (by kernel_rfl) (by kernel_rfl) (fun _ _ _ h => h) (Or.inl ⟨by rfl, ?_⟩) (by assumption) ?_
      rotate_left
      · (intro wq hSq; (try dsimp only at hSq); go_simp; try with_reducible rfl)
      try simp only [Act.put, List.setIfInBounds_toArray, List.set_cons_zero, List.set_cons_succ]
      have HD := Lib.hid ((Below.refl w2.heap.size w2).drew)
      have HBD := Lib.hid (HBW2.out.drew)
      have HQ0 : Hid (w2.drew.heap[w.heap.size]? = some (.cells #[.bool na, .string sa] 42)) := HM0.out
      have HQ1 : Hid (w2.drew.heap[w.heap.size + 1]? = some (.cells #[.bool nb, .string sb] 42)) := HM1.out
      have HQ2 : Hid (w2.drew.heap[w.heap.size + 1 + 1]? = some (.cells #[.bool false, .string ⟨#[]⟩] 42)) := HM2.out
      clear c00 c01 c10 c11
      refine wpAnyD_keep 1 (by kernel_rfl) rfl (fun K hK => ?_)
      go_simp
      go_at_call 77
      (with_reducible refine (HINA.out _).mono ?_)
      rintro e w5 ⟨v5, rfl, hn5, hb5⟩
      obtain ⟨a5, L5, c5, rfl⟩ : ∃ a L c, v5 = .slice a L c := by obtain ⟨x, y, h⟩ := reads_len hn5; exact ⟨x, _, y, h⟩
      have hx0 := wide_hold (w := w2.drew) HQ0.out hb5
      have hx1 := wide_hold (w := w2.drew) HQ1.out hb5
      have hx2 := wide_hold (w := w2.drew) HQ2.out hb5
      have HBX0 := Lib.hid (HBD.out.trans (hb5.mono HBD.out.size))
      obtain ⟨j0, j1, -⟩ := wide_cells hx0
      obtain ⟨j2, j3, -⟩ := wide_cells hx1
      refine hK.out _ _ ⟨j0, j1, j2, j3⟩ (fun hHeld0 => ?_)
      have HX00 := Lib.hid hx0
      have HX01 := Lib.hid hx1
      have HX02 := Lib.hid hx2
      have HN0_n := Lib.hid hn5
      clear hb5 hn5 hx0 hx1 hx2 j0 j1 j2 j3 hK K hHeld
      try simp only [Act.put, List.setIfInBounds_toArray, List.set_cons_zero, List.set_cons_succ]
      refine wpAnyD_keep 3 (by kernel_rfl) rfl (fun K hK => ?_)
      go_simp
      go_at_call 77
      (with_reducible refine (HINB.out _).mono ?_)
      rintro e w6 ⟨v6, rfl, hn6, hb6⟩
      obtain ⟨a6, L6, c6, rfl⟩ : ∃ a L c, v6 = .slice a L c := by obtain ⟨x, y, h⟩ := reads_len hn6; exact ⟨x, _, y, h⟩
      have hx0 := wide_hold (w := w5) HX00.out hb6
      have hx1 := wide_hold (w := w5) HX01.out hb6
      have hx2 := wide_hold (w := w5) HX02.out hb6
      have HBX1 := Lib.hid (HBX0.out.trans (hb6.mono HBX0.out.size))
      obtain ⟨j0, j1, -⟩ := wide_cells hx0
      obtain ⟨j2, j3, -⟩ := wide_cells hx1
      refine hK.out _ _ ⟨j0, j1, j2, j3⟩ (fun hHeld1 => ?_)
      have HX10 := Lib.hid hx0
      have HX11 := Lib.hid hx1
      have HX12 := Lib.hid hx2
      have HN1_0 := Lib.hid (numH_below (HN0_n.out) hb6)
      have HN1_n := Lib.hid hn6
      clear hb6 hn6 hx0 hx1 hx2 j0 j1 j2 j3 hK K hHeld0
      try simp only [Act.put, List.setIfInBounds_toArray, List.set_cons_zero, List.set_cons_succ]
      refine wpAnyD_keep 4 (by kernel_rfl) rfl (fun K hK => ?_)
      go_simp
      go_at_call 78
      (with_reducible refine (HADD.out _ _ _ (HN1_0.out) (HN1_n.out)).mono ?_)
      rintro e w7 ⟨v7, rfl, hn7, hb7⟩
      obtain ⟨a7, L7, c7, rfl⟩ : ∃ a L c, v7 = .slice a L c := by obtain ⟨x, y, h⟩ := reads_len hn7; exact ⟨x, _, y, h⟩
      have hx0 := wide_hold (w := w6) HX10.out hb7
      have hx1 := wide_hold (w := w6) HX11.out hb7
      have hx2 := wide_hold (w := w6) HX12.out hb7
      have HBX2 := Lib.hid (HBX1.out.trans (hb7.mono HBX1.out.size))
      obtain ⟨j0, j1, -⟩ := wide_cells hx0
      obtain ⟨j2, j3, -⟩ := wide_cells hx1
      refine hK.out _ _ ⟨j0, j1, j2, j3⟩ (fun hHeld2 => ?_)
      have HX20 := Lib.hid hx0
      have HX21 := Lib.hid hx1
      have HX22 := Lib.hid hx2
      have HN2_0 := Lib.hid (numH_below (HN1_0.out) hb7)
      have HN2_1 := Lib.hid (numH_below (HN1_n.out) hb7)
      have HN2_n := Lib.hid hn7
      clear hb7 hn7 hx0 hx1 hx2 j0 j1 j2 j3 hK K hHeld1
      try simp only [Act.put, List.setIfInBounds_toArray, List.set_cons_zero, List.set_cons_succ]
      refine wpAnyD_keep 5 (by kernel_rfl) rfl (fun K hK => ?_)
      go_simp
      go_at_call 53
      (with_reducible refine (HOUT.out _ _ (HN2_n.out)).mono ?_)
      rintro e w8 ⟨rfl, hb8⟩
      have hx0 := wide_hold (w := w7) HX20.out hb8
      have hx1 := wide_hold (w := w7) HX21.out hb8
      have hx2 := wide_hold (w := w7) HX22.out hb8
      have HBX3 := Lib.hid (HBX2.out.trans (hb8.mono HBX2.out.size))
      obtain ⟨j0, j1, -⟩ := wide_cells hx0
      obtain ⟨j2, j3, -⟩ := wide_cells hx1
      refine hK.out _ _ ⟨j0, j1, j2, j3⟩ (fun hHeld3 => ?_)
      have HX30 := Lib.hid hx0
      have HX31 := Lib.hid hx1
      have HX32 := Lib.hid hx2
      have HN3_0 := Lib.hid (numH_below (HN2_0.out) hb8)
      have HN3_1 := Lib.hid (numH_below (HN2_1.out) hb8)
      have HN3_2 := Lib.hid (numH_below (HN2_n.out) hb8)
      clear hb8 hx0 hx1 hx2 j0 j1 j2 j3 hK K hHeld2
      try simp only [Act.put, List.setIfInBounds_toArray, List.set_cons_zero, List.set_cons_succ]
      refine wpAnyD_take 6 (v := ?_) (by kernel_rfl) (by kernel_rfl) rfl (by kernel_rfl) (by kernel_rfl) (fun _ _ _ h => h) (Or.inl ⟨by rfl, ?_⟩) (by assumption) ?_
      rotate_left
      · (intro wq hSq; (try dsimp only at hSq); go_simp; try with_reducible rfl)
      try simp only [Act.put, List.setIfInBounds_toArray, List.set_cons_zero, List.set_cons_succ]
      refine wpAnyD_take 7 (v := ?_) (by kernel_rfl) (by kernel_rfl) rfl (by kernel_rfl) (by kernel_rfl) (fun _ _ _ h => h) (Or.inl ⟨by rfl, ?_⟩) (by assumption) ?_
      rotate_left
      · (intro wq hSq; (try dsimp only at hSq); go_simp; try with_reducible rfl)
      try simp only [Act.put, List.setIfInBounds_toArray, List.set_cons_zero, List.set_cons_succ]
      obtain ⟨d0, d1, fz⟩ := wide_cells HX32.out
      refine wpAnyD_step 8 (by kernel_rfl) rfl rfl (fun K hK => ?_)
      go_simp
      refine hK.out _ _ ?_
      clear hK K hHeld3
      try simp only [Act.put, List.setIfInBounds_toArray, List.set_cons_zero, List.set_cons_succ]
      refine wpAnyD_takeW 9 (v := ?_) (by kernel_rfl) rfl (by kernel_rfl) (by kernel_rfl) (fun _ _ _ h => h) (Or.inl ⟨by rfl, ?_⟩) ?_
      rotate_left
      · (intro wq hSq; (try dsimp only at hSq); go_simp; try with_reducible rfl)
      try simp only [Act.put, List.setIfInBounds_toArray, List.set_cons_zero, List.set_cons_succ]
      refine wpAnyD_end (by kernel_rfl) ?_
      have m2 := wide_set HX32.out fb ft
      have hb9 := below_set2 (p := w.heap.size + 1 + 1) HBX3.out (by omega) fb ft
      clear d0 d1 fz
      obtain ⟨d20, d21, -⟩ := wide_cells m2
      clear m2
      generalize (w8.setCell ⟨w.heap.size + 1 + 1, 0, none⟩ (.bool fb)).setCell ⟨w.heap.size + 1 + 1, 1, none⟩ (.string ft) = W9 at d20 d21 hb9 ⊢
      go_wp2
      rw [HP.out]
      exact bodyPost_ret (v := .tuple #[.agg #[.bool fb, .string ft], .int .i64 E]) (by simp [results, Try.results41, go_sem, d20, d21]) rfl ⟨rfl, hb9⟩
end Go.Proofs.Ytkjlfjnncdkmlaa

/- Wide integers: helpers and walks, in one text (XF2 XF3). -/
/- Walks: the integer of 64 bits of a form: the reference's. -/

/- Walks: the form of an integer of 64 bits: the reference's. -/
namespace Go.Proofs.Ytkjlfjnncdkmlaa
set_option linter.all false
open Go.RowKit Go.Shelf Go.WideNum
set_option maxRecDepth 100000 in
set_option maxHeartbeats 8000000 in
theorem refOf_any (n : Int) (h1 : -9223372036854775808 ≤ n) (h2 : n < 9223372036854775808) (fb : Bool) (ft : ByteArray) (hout : outZ n = .agg #[.bool fb, .string ft]) (w : World) :
    Calls Try.prog 16 #[.int .i64 n] w fun e w' => e = .returned (.agg #[.bool fb, .string ft]) ∧ Below w.heap.size w w' := by
  obtain ⟨HPOST, hpost⟩ : ∃ X : Ending → World → Prop, X = fun e w' => e = .returned (.agg #[.bool fb, .string ft]) ∧ Below w.heap.size w w' := ⟨_, rfl⟩
  rw [← hpost]
  have HP := Lib.hid hpost
  clear hpost
  obtain ⟨m, hm⟩ : ∃ m, m = n.natAbs := ⟨_, rfl⟩
  obtain ⟨sg, hsg⟩ : ∃ b, b = decide (n < 0) := ⟨_, rfl⟩
  have hzo : zOf sg m = n := by
    rw [hsg, hm]; unfold zOf
    by_cases h : n < 0
    · simp [h]; omega
    · simp [h]; omega
  have hm64 : m < 18446744073709551616 := by omega
  have hml : (hw m).length ≤ 4 := hw_len_le (by omega)
  have HOUT : Hid (∀ v W, World.numH W v m → Calls Try.prog 53 #[.agg #[.bool sg, v]] W fun e w' => e = .returned (.tuple #[.agg #[.bool fb, .string ft], .int .i64 (errZ n)]) ∧ Below W.heap.size W w') := fun v W h => hout_num sg m (by omega) fb ft (errZ n) (by rw [hzo]; exact hout) (by rw [hzo]) v W h
  obtain ⟨EE, hEE⟩ : ∃ EE, EE = errZ n := ⟨_, rfl⟩
  rw [← hEE] at HOUT
  have HML := Lib.hid hml
  have hcase : (n < 0 ∧ sg = true ∧ IntKind.u64.wrap (-(IntKind.u64.wrap n)) = (m : Int)) ∨ (¬ n < 0 ∧ sg = false ∧ IntKind.u64.wrap n = (m : Int)) := by
    by_cases h : n < 0
    · left
      refine ⟨h, by rw [hsg, decide_eq_true h], ?_⟩
      rw [IntKind.wrap_u64, IntKind.wrap_u64]; omega
    · right
      refine ⟨h, by rw [hsg, decide_eq_false h], ?_⟩
      rw [IntKind.wrap_u64]; omega
  have HCASE := Lib.hid hcase
  clear hcase hsg hzo hout hEE hml
  obtain ⟨W0, hW0⟩ : ∃ W0, W0 = (w.alloc (.cells #[.bool false, .string ⟨#[]⟩] 42)).alloc (.cells #[.bool sg, .slice none 0 0] 77) := ⟨_, rfl⟩
  have g0 : W0.heap[w.heap.size]? = some (.cells #[.bool false, .string ⟨#[]⟩] 42) := by rw [hW0, Below.heap_alloc _ _ _ (by simp)]; exact heap_alloc_new w _
  have g1 : W0.heap[w.heap.size + 1]? = some (.cells #[.bool sg, .slice none 0 0] 77) := by rw [hW0]; exact alloc_last _ _ (by simp)
  have hb0 : Below w.heap.size w W0 := by rw [hW0]; exact (((Below.refl _ w).alloc (Nat.le_refl _) _).alloc (by simp) _)
  have hz0 : W0.heap.size = w.heap.size + 1 + 1 := by rw [hW0]; simp
  have HB0 := Lib.hid hb0
  have HG0 := Lib.hid g0
  have HG1 := Lib.hid g1
  have HZ0 := Lib.hid hz0
  have HW0 := Lib.hid hW0
  clear hb0 g0 g1 hz0 hW0
  go_enter Try.func16, Try.ntmps16
  go_upto_if 13 with (fail)
  go_cut [4] (fun nv wx => nv = .int .u64 (m : Int) ∧ wx = W0)
  case first =>
    rcases HCASE.out with ⟨hn, hsg, hu⟩ | ⟨hn, hsg, hu⟩
    · have hd : decide (n < 0) = true := decide_eq_true hn
      subst hsg
      clear hm
      go_wp2
      go_meet
      case rel => exact ⟨by first | rfl | rw [hu], HW0.out.symm⟩
    · have hd : decide (n < 0) = false := decide_eq_false hn
      subst hsg
      clear hm
      go_wp2
      go_meet
      case rel => exact ⟨by first | rfl | rw [hu], HW0.out.symm⟩
  case rest =>
    obtain ⟨rfl, rfl⟩ := hcut
    obtain ⟨M, hM⟩ : ∃ M, M = (hw m).length := ⟨_, rfl⟩
    have HM := Lib.hid hM
    have hM4 : M ≤ 4 := by rw [hM]; exact HML.out
    clear hm hM HCASE
    go_wp2_with fail
    go_loopw [4] (fun nv wr => ∃ (k : Nat) (xa : Option Addr) (xc : Nat), k ≤ M ∧ nv = .int .u64 ((m / 65536 ^ k : Nat) : Int) ∧ Hid (wr.heap[w.heap.size]? = some (.cells #[.bool false, .string ⟨#[]⟩] 42)) ∧ Hid (wr.heap[w.heap.size + 1]? = some (.cells #[.bool sg, .slice xa k xc] 77)) ∧ Hid (wr.owns (w.heap.size + 1 + 1) 22 1 (.slice xa k xc) k (((List.range k).map (dig 65536 m)).map u32V)) ∧ Hid (Below w.heap.size w wr) ∧ w.heap.size + 1 + 1 ≤ wr.heap.size) (fun nv _ => (intOf nv).toNat)
    case atStart => exact ⟨0, none, 0, Nat.zero_le _, by rw [Nat.pow_zero, Nat.div_one], HG0.out, HG1.out, owns_nil _ _ _, HB0.out, by rw [HZ0.out]; exact Nat.le_refl _⟩
    case round =>
      obtain ⟨k, xa, xc, hk, rfl, hG0, hG1, hO, hB, hz⟩ := hrel
      obtain ⟨c10, c11, f10, f11⟩ := num_cells hG1.out
      by_cases hlt : k < M
      · have hst := div_pow_succ 65536 m k
        have hdl := hw_dig m k
        have hge : 65536 ^ k ≤ m := hw_len_ge (by rw [← HM.out]; exact hlt)
        have hpos : 0 < m / 65536 ^ k := Nat.div_pos hge (Nat.pow_pos (by omega))
        have hle := Nat.div_le_self m (65536 ^ k)
        obtain ⟨r, er⟩ : ∃ r, r = m / 65536 ^ k := ⟨_, rfl⟩
        obtain ⟨z, ez⟩ : ∃ r, r = dig 65536 m k := ⟨_, rfl⟩
        obtain ⟨q, eq⟩ : ∃ r, r = m / 65536 ^ (k + 1) := ⟨_, rfl⟩
        rw [← er, ← ez, ← eq] at hst
        rw [← er] at hpos hle
        rw [← ez] at hdl
        rw [← er]
        have EZ := Lib.hid ez
        have EQ := Lib.hid eq
        have t0 : (0 : Int) < (r : Int) := by omega
        have t1 : (r : Int) % 65536 = (z : Int) := by omega
        have t2 : (z : Int) % 4294967296 = (z : Int) := by omega
        have t3 : (r : Int) / 65536 = (q : Int) := by omega
        have HRQ : Hid (q < r) := by show q < r; omega
        have hr64 : r < 18446744073709551616 := by omega
        clear er ez eq hst hge hpos
        go_wp2_with (at_builtin; refine app_u32 wr 23 Try.underlying23 rfl (.tmp 19) (.tmp 23) rfl (w.heap.size + 1 + 1) (.slice xa k xc) k _ rfl hO.out (z : Int) wr.heap.size rfl rfl (by omega) hz ?_; intro v5 w5 hown5 hg5 hz5; have HO5 := Lib.hid hown5; obtain ⟨g5, q5, rfl⟩ := hown5.succ; have hb5 := below_grown hO.out hg5 (w.heap.size + 1 + 1) (Nat.le_refl _) hz; have HB5 := Lib.hid hb5; have K0 := Lib.hid ((hb5.block _ (by omega)).trans hG0.out); have hk1 := (hb5.block _ (by omega)).trans hG1.out; have K1 := Lib.hid hk1; obtain ⟨e10, e11, i10, i11⟩ := num_cells hk1; clear hown5 hg5 hb5 hk1)
        go_roundw
        case rel =>
          refine ⟨k + 1, some ⟨g5, 0, none⟩, q5, by omega, by first | (rw [← EQ.out]; done) | (rw [t3, ← EQ.out]), ?_, ?_, ?_, ?_, ?_⟩
          · show _ = _; rw [cell_other (by omega)]; exact K0.out
          · show _ = _; exact num_set1 K1.out _
          · show World.owns _ _ _ _ _ _ _
            refine World.owns.setCell ?_ (by simp) _
            rw [List.range_succ, List.map_append, List.map_append]
            show w5.owns _ _ _ _ _ (_ ++ [u32V (dig 65536 m k)])
            rw [← EZ.out]
            exact HO5.out
          · show Below _ _ _
            exact (hB.out.trans (HB5.out.mono (by omega))).setCell (by simp) _
          · simp; omega
        case measure =>
          have := HRQ.out
          first | (simp [intOf, t3]; done) | (simp [intOf, t3]; omega) | (simp [intOf]; omega)
      · obtain rfl : k = M := by omega
        have h0 : m / 65536 ^ k = 0 := Nat.div_eq_of_lt (by rw [HM.out]; exact hw_vlt m)
        rw [h0]
        have hnum : World.numH wr (.slice xa k xc) m := rawH_num hO.out.reads HM.out
        have t0 : ¬ (0 : Int) < ((0 : Nat) : Int) := by omega
        have HNUM := Lib.hid hnum
        clear h0 hnum
        go_wp2_with fail
        (with_reducible refine (HOUT.out _ _ HNUM.out).mono ?_)
        rintro e w6 ⟨rfl, hb6⟩
        have hg6 := wide_hold (w := wr) hG0.out hb6
        have HB6 := Lib.hid (hB.out.trans (hb6.mono hB.out.size))
        have hz6 := hb6.size
        have ha6 : (w6.alloc (.cells #[.bool fb, .string ft] 42)).heap[w.heap.size]? = some (.cells #[.bool false, .string ⟨#[]⟩] 42) := by rw [Below.heap_alloc _ _ _ (by omega)]; exact hg6
        have ha7 : (w6.alloc (.cells #[.bool fb, .string ft] 42)).heap[w6.heap.size]? = some (.cells #[.bool fb, .string ft] 42) := heap_alloc_new w6 _
        have hb7 : Below w.heap.size w (w6.alloc (.cells #[.bool fb, .string ft] 42)) := HB6.out.alloc HB6.out.size _
        clear c10 c11 f10 f11 hb6
        obtain ⟨d0, d1, fd⟩ := wide_cells ha6
        obtain ⟨i0, i1, -⟩ := wide_cells ha7
        have HA6 := Lib.hid ha6
        have HB7 := Lib.hid hb7
        clear ha6 ha7 hb7 hg6
        go_wp2
        have m2 := wide_set HA6.out fb ft
        have hb9 : Below w.heap.size w (((w6.alloc (.cells #[.bool fb, .string ft] 42)).setCell ⟨w.heap.size, 0, none⟩ (.bool fb)).setCell ⟨w.heap.size, 1, none⟩ (.string ft)) := (HB7.out.setCell (by simp) _).setCell (by simp) _
        clear d0 d1 fd i0 i1
        obtain ⟨d20, d21, -⟩ := wide_cells m2
        clear m2
        generalize ((w6.alloc (.cells #[.bool fb, .string ft] 42)).setCell ⟨w.heap.size, 0, none⟩ (.bool fb)).setCell ⟨w.heap.size, 1, none⟩ (.string ft) = W9 at d20 d21 hb9 ⊢
        rw [HP.out]
        exact bodyPost_ret (v := .agg #[.bool fb, .string ft]) (by simp [results, Try.results16, go_sem, d20, d21]) rfl ⟨rfl, hb9⟩
end Go.Proofs.Ytkjlfjnncdkmlaa

/- Walks: integers of many words, by value: calls whose results lie in range. -/
namespace Go.Proofs.Ytkjlfjnncdkmlaa
set_option linter.all false
open Go.RowKit Go.Shelf Go.WideNum
theorem div_all : DivAll := fun A C hC hla hlc => by
  by_cases hs : A < C ∨ C < 4294967296
  · exact divide_small A C hC hs (by omega) (by omega)
  · exact divide_big A C (by omega) (by omega) (by omega)
theorem div_valid (na : Bool) (sa : ByteArray) (nb : Bool) (sb : ByteArray) (ha : validB na sa = true) (hb : validB nb sb = true) (h0 : sb.size ≠ 0) : DivOK (numB sa) (numB sb) := by
  obtain ⟨l1, -, -, -⟩ := valid_spec na sa ha
  obtain ⟨l2, hmg, -, -⟩ := valid_spec nb sb hb
  have h1 := wd_len65 l1
  have h2 := wd_len65 l2
  exact div_all _ _ (fun h => by rw [h] at hmg; exact h0 (by rw [← hmg]; rfl)) (by omega) (by omega)
/-- The sign and the bytes of an integer's form. -/
def zN (z : Int) : Bool := decide (z < 0)
def zT (z : Int) : ByteArray := magB z.natAbs
def InR (z : Int) : Prop := z.natAbs < lim
theorem lim_words : lim = 4294967296 ^ 64 := by unfold lim; rw [show (4294967296 : Nat) = 256 ^ 4 by rfl, ← Nat.pow_mul]
theorem inR_of {z : Int} {k : Nat} (h : z.natAbs < 4294967296 ^ k) (hk : k ≤ 64) : InR z := by
  unfold InR
  rw [lim_words]
  exact Nat.lt_of_lt_of_le h (Nat.pow_le_pow_right (by omega) hk)
theorem inR_small {z : Int} (h : z.natAbs < 18446744073709551616) : InR z := inR_of (k := 2) (Nat.lt_of_lt_of_le h (by decide)) (by omega)
theorem outZ_zW {z : Int} (h : InR z) : outZ z = .agg #[.bool (zN z), .string (zT z)] ∧ errZ z = 0 := outZ_in z h
theorem z_valid {z : Int} (h : InR z) : validB (zN z) (zT z) = true ∧ zV (zN z) (zT z) = z := by
  obtain ⟨v1, v2⟩ := valid_magB (decide (z < 0)) z.natAbs h (fun hn => by have := of_decide_eq_true hn; omega)
  refine ⟨v1, ?_⟩
  unfold zV zOf zT zN
  rw [v2]
  by_cases hn : z < 0
  · rw [decide_eq_true hn, if_pos rfl]; omega
  · rw [decide_eq_false hn, if_neg (by decide)]; omega
theorem z_size {z : Int} (h : InR z) : (zT z).size ≤ maxLen := by
  have := (valid_spec _ _ (z_valid h).1).2.2.2
  unfold maxLen; omega
theorem opF_z (f : Int → Int → Int) {x y : Int} (hx : InR x) (hy : InR y) (h : InR (f x y)) : opF f (zN x) (zT x) (zN y) (zT y) = (.agg #[.bool (zN (f x y)), .string (zT (f x y))], 0) := by
  unfold opF
  rw [(z_valid hx).1, (z_valid hy).1, (z_valid hx).2, (z_valid hy).2, if_pos (by rfl), (outZ_zW h).1, (outZ_zW h).2]
/-- A form and no error. -/
def WideOk (z : Int) (w : World) (e : Ending) (w' : World) : Prop := e = .returned (.tuple #[.agg #[.bool (zN z), .string (zT z)], .int .i64 0]) ∧ Below w.heap.size w w'
theorem Mul_z (x y : Int) (hx : InR x) (hy : InR y) (h : InR (x * y)) (w : World) :
    Calls Try.prog 87 #[.agg #[.bool (zN x), .string (zT x)], .agg #[.bool (zN y), .string (zT y)]] w (WideOk (x * y) w) := by
  have := Mul_any (zN x) (zT x) (zN y) (zT y) (z_size hx) (z_size hy) w
  rwa [opF_z (fun a b => a * b) hx hy h] at this
theorem Add_z (x y : Int) (hx : InR x) (hy : InR y) (h : InR (x + y)) (w : World) :
    Calls Try.prog 108 #[.agg #[.bool (zN x), .string (zT x)], .agg #[.bool (zN y), .string (zT y)]] w (WideOk (x + y) w) := by
  have := Add_any (zN x) (zT x) (zN y) (zT y) (z_size hx) (z_size hy) w
  rwa [opF_z (fun a b => a + b) hx hy h] at this
theorem refMul_z (x y : Int) (hx : InR x) (hy : InR y) (h : InR (x * y)) (w : World) :
    Calls Try.prog 41 #[.agg #[.bool (zN x), .string (zT x)], .agg #[.bool (zN y), .string (zT y)]] w (WideOk (x * y) w) :=
  refMul_any (zN x) (zT x) (zN y) (zT y) (z_size hx) (z_size hy) _ _ _ (opF_z (fun a b => a * b) hx hy h) w
theorem refAdd_z (x y : Int) (hx : InR x) (hy : InR y) (h : InR (x + y)) (w : World) :
    Calls Try.prog 40 #[.agg #[.bool (zN x), .string (zT x)], .agg #[.bool (zN y), .string (zT y)]] w (WideOk (x + y) w) :=
  refAdd_any (zN x) (zT x) (zN y) (zT y) (z_size hx) (z_size hy) _ _ _ (opF_z (fun a b => a + b) hx hy h) w
theorem Of_z (n : Int) (h1 : -9223372036854775808 ≤ n) (h2 : n < 9223372036854775808) (w : World) :
    Calls Try.prog 85 #[.int .i64 n] w fun e w' => e = .returned (.agg #[.bool (zN n), .string (zT n)]) ∧ Below w.heap.size w w' := by
  have := Of_any n h1 h2 w
  rwa [(outZ_zW (inR_small (by omega))).1] at this
theorem refOf_z (n : Int) (h1 : -9223372036854775808 ≤ n) (h2 : n < 9223372036854775808) (w : World) :
    Calls Try.prog 16 #[.int .i64 n] w fun e w' => e = .returned (.agg #[.bool (zN n), .string (zT n)]) ∧ Below w.heap.size w w' :=
  refOf_any n h1 h2 _ _ (outZ_zW (inR_small (by omega))).1 w
theorem pos_of {m : Int} (h : InR m) (h0 : 0 < m) : posB (zN m) (zT m) = true := by
  unfold posB
  have h1 := (z_valid h).1
  have h2 : zN m = false := decide_eq_false (by omega)
  have h3 : (zT m).size ≠ 0 := fun h3 => by
    have h4 := (z_valid h).2
    have h5 : zT m = ⟨#[]⟩ := by
      apply ByteArray.ext
      exact Array.eq_empty_of_size_eq_zero h3
    rw [h5, h2] at h4
    have : zV false ⟨#[]⟩ = 0 := by kernel_rfl
    omega
  rw [h2] at h1 ⊢
  simp [h1, h3]
theorem balZ_abs (x m : Int) (h0 : 0 < m) : -m < balZ x m ∧ balZ x m < m := by
  have h1 := Int.emod_nonneg x (show m ≠ 0 by omega)
  have h2 := Int.emod_lt_of_pos x h0
  unfold balZ
  split <;> omega
theorem balF_z {x m : Int} (hx : InR x) (hm : InR m) (h0 : 0 < m) : balF (zN x) (zT x) (zN m) (zT m) = (.agg #[.bool (zN (balZ x m)), .string (zT (balZ x m))], 0) := by
  have hb := balZ_abs x m h0
  have hr : InR (balZ x m) := by unfold InR at *; omega
  unfold balF
  rw [(z_valid hx).1, pos_of hm h0, (z_valid hx).2, (z_valid hm).2, if_pos (by rfl), (outZ_zW hr).1, (outZ_zW hr).2]
theorem Balanced_z (x m : Int) (hx : InR x) (hm : InR m) (h0 : 0 < m) (w : World) :
    Calls Try.prog 109 #[.agg #[.bool (zN x), .string (zT x)], .agg #[.bool (zN m), .string (zT m)]] w (WideOk (balZ x m) w) := by
  have := Balanced_any (zN x) (zT x) (zN m) (zT m) (z_size hx) (z_size hm) (div_valid _ _ _ _) w
  rwa [balF_z hx hm h0] at this
end Go.Proofs.Ytkjlfjnncdkmlaa
