/- Walks: two forms compared. -/
import Derived.Test.YtdfklcmiagmgaaaWD8
namespace Go.Proofs.Ytdfklcmiagmgaaa
set_option linter.all false
open Go.RowKit Go.Shelf Go.WideNum
def cmpZ (a b : Int) : Int := if a < b then -1 else if b < a then 1 else 0
def cmpF (na : Bool) (sa : ByteArray) (nb : Bool) (sb : ByteArray) : Int × Int := if validB na sa && validB nb sb then (cmpZ (zV na sa) (zV nb sb), 0) else (0, 2)
theorem cmp_same (neg : Bool) (A C : Nat) : (if neg then -cmpN A C else cmpN A C) = cmpZ (zOf neg A) (zOf neg C) := by
  unfold cmpN cmpZ zOf
  cases neg
  · simp only [Bool.false_eq_true, if_false]
    by_cases h1 : A < C
    · rw [if_pos h1, if_pos (by omega)]
    · rw [if_neg h1, if_neg (show ¬ (A : Int) < (C : Int) by omega)]
      by_cases h2 : C < A
      · rw [if_pos h2, if_pos (by omega)]
      · rw [if_neg h2, if_neg (by omega)]
  · simp only [if_true]
    by_cases h1 : A < C
    · rw [if_pos h1, if_neg (by omega), if_pos (by omega)]; rfl
    · by_cases h2 : C < A
      · rw [if_neg h1, if_pos h2, if_pos (by omega)]
      · rw [if_neg h1, if_neg h2, if_neg (by omega), if_neg (by omega)]; rfl
theorem cmp_other (na nb : Bool) (h : na ≠ nb) (A C : Nat) (ha : na = true → A ≠ 0) (hc : nb = true → C ≠ 0) : (if na then (-1 : Int) else 1) = cmpZ (zOf na A) (zOf nb C) := by
  unfold cmpZ zOf
  cases na <;> cases nb
  · exact absurd rfl h
  · have := hc rfl
    simp only [Bool.false_eq_true, if_false, if_true]
    rw [if_neg (by omega), if_pos (by omega)]
  · have := ha rfl
    simp only [Bool.false_eq_true, if_false, if_true]
    rw [if_pos (by omega)]
  · exact absurd rfl h
theorem cmpN_bd (A C : Nat) : -1 ≤ cmpN A C ∧ cmpN A C ≤ 1 := by unfold cmpN; split <;> (try split) <;> omega
set_option maxRecDepth 100000 in
set_option maxHeartbeats 4000000 in
theorem signed_any (neg : Bool) (c : Int) (h1 : -1 ≤ c) (h2 : c ≤ 1) (w : World) : Calls Try.prog 64 #[.bool neg, .int .i64 c] w fun e w' => e = .returned (.int .i64 (if neg then -c else c)) ∧ w = w' := by
  cases neg
  · go_enter Try.func64, Try.ntmps64
    go_wp2
    go_ret
    exact ⟨rfl, rfl⟩
  · go_enter Try.func64, Try.ntmps64
    go_wp2
    go_ret
    exact ⟨rfl, rfl⟩
set_option maxRecDepth 100000 in
set_option maxHeartbeats 8000000 in
theorem Cmp_any (na : Bool) (sa : ByteArray) (nb : Bool) (sb : ByteArray) (hsa : sa.size ≤ maxLen) (hsb : sb.size ≤ maxLen) (w : World) :
    Calls Try.prog 17 #[.agg #[.bool na, .string sa], .agg #[.bool nb, .string sb]] w fun e w' => e = .returned (.tuple #[.int .i64 (cmpF na sa nb sb).1, .int .i64 (cmpF na sa nb sb).2]) ∧ Below w.heap.size w w' := by
  obtain ⟨HPOST, hpost⟩ : ∃ X : Ending → World → Prop, X = fun e w' => e = .returned (.tuple #[.int .i64 (cmpF na sa nb sb).1, .int .i64 (cmpF na sa nb sb).2]) ∧ Below w.heap.size w w' := ⟨_, rfl⟩
  rw [← hpost]
  have HP := Lib.hid hpost
  clear hpost
  obtain ⟨W0, hW0⟩ : ∃ W0, W0 = (w.alloc (.cells #[.bool na, .string sa] 23)).alloc (.cells #[.bool nb, .string sb] 23) := ⟨_, rfl⟩
  have g0 : W0.heap[w.heap.size]? = some (.cells #[.bool na, .string sa] 23) := by rw [hW0]; repeat (first | (refine alloc_last _ _ ?_; simp only [World.size_alloc]; done) | (rw [Below.heap_alloc]; rotate_left; (simp only [World.size_alloc]; omega)))
  have g1 : W0.heap[w.heap.size + 1]? = some (.cells #[.bool nb, .string sb] 23) := by rw [hW0]; repeat (first | (refine alloc_last _ _ ?_; simp only [World.size_alloc]; done) | (rw [Below.heap_alloc]; rotate_left; (simp only [World.size_alloc]; omega)))
  have hb0 : Below w.heap.size w W0 := by rw [hW0]; exact (((Below.refl _ w).alloc (Nat.le_refl _) _).alloc (by simp) _)
  have HB0 := Lib.hid hb0
  have HG0 := Lib.hid g0
  have HG1 := Lib.hid g1
  obtain ⟨c00, c01, f0⟩ := wide_cells g0
  obtain ⟨c10, c11, f1⟩ := wide_cells g1
  have HW0 := Lib.hid hW0
  clear hb0 g0 g1 hW0
  go_enter Try.func17, Try.ntmps17
  go_upto_region 1 with (fail)
  rw [← HW0.out]
  go_wp2_with fail
  obtain ⟨ok, hok⟩ : ∃ ok, ok = (validB na sa && validB nb sb) := ⟨_, rfl⟩
  have hval := valid2_any na sa nb sb hsa hsb (W0.alloc (.cells #[.bool na, .string sa, .bool nb, .string sb] 23)) W0.heap.size (heap_alloc_new W0 _)
  rw [← hok] at hval
  have HOK := Lib.hid hok
  clear hok
  (with_reducible refine hval.mono ?_)
  clear hval
  rintro e w1 ⟨rfl, hb1⟩
  have hb01 : Below W0.heap.size W0 w1 := ((Below.refl _ W0).alloc (Nat.le_refl _) _).trans (hb1.mono (by simp))
  have k0 := (hb01.block _ (lt_of_heap HG0.out)).trans HG0.out
  have k1 := (hb01.block _ (lt_of_heap HG1.out)).trans HG1.out
  have HBw1 := Lib.hid (HB0.out.trans (hb01.mono HB0.out.size))
  clear c00 c01 f0 c10 c11 f1 hb1
  obtain ⟨c00, c01, f0⟩ := wide_cells k0
  obtain ⟨c10, c11, f1⟩ := wide_cells k1
  have hl0 := lt_of_heap k0
  have hl1 := lt_of_heap k1
  clear k0 k1 hb01
  cases ok with
  | false =>
    have hres : Hid (cmpF na sa nb sb = (0, 2)) := by show _ = _; unfold cmpF; rw [← HOK.out]; rfl
    go_wp2
    rw [HP.out]
    exact ⟨by rw [hres.out]; rfl, HBw1.out⟩
  | true =>
    have hv : validB na sa = true ∧ validB nb sb = true := by
      have := HOK.out
      cases h1 : validB na sa <;> cases h2 : validB nb sb <;> rw [h1, h2] at this <;> first | exact ⟨rfl, rfl⟩ | cases this
    obtain ⟨l1, -, z1, s256a⟩ := valid_spec na sa hv.1
    obtain ⟨l2, -, z2, s256b⟩ := valid_spec nb sb hv.2
    have hres : Hid (cmpF na sa nb sb = (cmpZ (zOf na (numB sa)) (zOf nb (numB sb)), 0)) := by show _ = _; unfold cmpF; rw [← HOK.out]; rfl
    by_cases hs : na = nb
    · subst hs
      have hofA : Hid (∀ W : World, Calls Try.prog 58 #[.agg #[.bool na, .string sa]] W (NumRet W (numB sa))) := of_wide na sa (by omega)
      have hofB : Hid (∀ W : World, Calls Try.prog 58 #[.agg #[.bool na, .string sb]] W (NumRet W (numB sb))) := of_wide na sb (by omega)
      have hwa := wd_len65 l1
      have hwb := wd_len65 l2
      obtain ⟨A, hA⟩ : ∃ A, A = numB sa := ⟨_, rfl⟩
      obtain ⟨C, hC⟩ : ∃ C, C = numB sb := ⟨_, rfl⟩
      rw [← hA, ← hC] at hres
      rw [← hA] at hofA hwa
      rw [← hC] at hofB hwb
      rw [← cmp_same] at hres
      have hcmp : Hid (∀ (va vb : Value) (W : World), World.numR W va A → World.numR W vb C → Calls Try.prog 65 #[va, vb] W fun e w' => e = .returned (.int .i64 (cmpN A C)) ∧ ∃ n, w' = W.drewN n) := fun va vb W h1 h2 => compare_num A C va vb W h1 h2 (by omega) (by omega)
      obtain ⟨bd1, bd2⟩ := cmpN_bd A C
      obtain ⟨T, hT⟩ : ∃ T, T = cmpN A C := ⟨_, rfl⟩
      rw [← hT] at hcmp hres bd1 bd2
      have hsg : Hid (∀ W : World, Calls Try.prog 64 #[.bool na, .int .i64 T] W fun e w' => e = .returned (.int .i64 (if na then -T else T)) ∧ W = w') := fun W => signed_any na T bd1 bd2 W
      obtain ⟨Z, hZ⟩ : ∃ Z, Z = if na then -T else T := ⟨_, rfl⟩
      rw [← hZ] at hsg hres
      have HWA := Lib.hid hwa
      clear hT hZ hA hC z1 z2 l1 l2 hwa hwb hv bd1 bd2
      go_wp2_with fail
      go_region_held3 (fun w' => (w'.cell? ⟨w.heap.size, 0, none⟩ = some (.bool na) ∧ w'.cell? ⟨w.heap.size, 1, none⟩ = some (.string sa) ∧ w'.cell? ⟨w.heap.size + 1, 0, none⟩ = some (.bool na) ∧ w'.cell? ⟨w.heap.size + 1, 1, none⟩ = some (.string sb)))
        (first | exact ⟨c00, c01, c10, c11⟩ | (refine ⟨?_, ?_, ?_, ?_⟩ <;> assumption) | exact ⟨b0, b1, b2, b3⟩)
        (first
          | (go_simp; go_at_call 58; (with_reducible refine (hofA.out _).mono ?_); rintro e w5 ⟨v5, rfl, ho5, hb5⟩; have H5 : Hid (NumRet _ A (.returned v5) w5) := ⟨v5, rfl, ho5, hb5⟩; have a0 := (hb5.cell (p := ⟨w.heap.size, 0, none⟩) hl0).trans c00; have a1 := (hb5.cell (p := ⟨w.heap.size, 1, none⟩) hl0).trans c01; have a2 := (hb5.cell (p := ⟨w.heap.size + 1, 0, none⟩) hl1).trans c10; have a3 := (hb5.cell (p := ⟨w.heap.size + 1, 1, none⟩) hl1).trans c11; have hm0 := Nat.lt_of_lt_of_le hl0 hb5.size; have hm1 := Nat.lt_of_lt_of_le hl1 hb5.size; clear ho5 hb5)
          | (go_simp; go_at_call 58; (with_reducible refine (hofB.out _).mono ?_); rintro e w6 ⟨v6, rfl, ho6, hb6⟩; have H6 : Hid (NumRet _ C (.returned v6) w6) := ⟨v6, rfl, ho6, hb6⟩; have b0 := (hb6.cell (p := ⟨w.heap.size, 0, none⟩) hm0).trans a0; have b1 := (hb6.cell (p := ⟨w.heap.size, 1, none⟩) hm0).trans a1; have b2 := (hb6.cell (p := ⟨w.heap.size + 1, 0, none⟩) hm1).trans a2; have b3 := (hb6.cell (p := ⟨w.heap.size + 1, 1, none⟩) hm1).trans a3; have HB6 := Lib.hid (H5.out.belD.trans (hb6.mono H5.out.belD.size)); clear ho6 hb6)
          | (go_simp; go_at_call 65; (with_reducible refine (hcmp.out _ _ _ (numR_below H5.out.numR H6.out.bel) H6.out.numR).mono ?_); rintro e w7 ⟨rfl, n7, rfl⟩)
          | (go_simp; go_at_call 64; (with_reducible refine (hsg.out _).mono ?_); rintro e w8 ⟨rfl, rfl⟩))
      have hbf := below_drewN (HBw1.out.trans (HB6.out.mono HBw1.out.size)) n7
      go_wp2
      rw [HP.out]
      exact ⟨by rw [hres.out]; rfl, hbf⟩
    · rw [← cmp_other na nb hs _ _ z1 z2] at hres
      have hcs : (na = true ∧ nb = false) ∨ (na = false ∧ nb = true) := by cases na <;> cases nb <;> simp at hs ⊢
      clear z1 z2 l1 l2 hv
      rcases hcs with ⟨rfl, rfl⟩ | ⟨rfl, rfl⟩
      · have hsg : Hid (∀ W : World, Calls Try.prog 64 #[.bool true, .int .i64 1] W fun e w' => e = .returned (.int .i64 (-1)) ∧ W = w') := fun W => signed_any true 1 (by omega) (by omega) W
        clear hs
        go_wp2_with fail
        (with_reducible refine (hsg.out _).mono ?_)
        rintro e w8 ⟨rfl, rfl⟩
        go_wp2
        rw [HP.out]
        exact ⟨by rw [hres.out]; rfl, HBw1.out⟩
      · have hsg : Hid (∀ W : World, Calls Try.prog 64 #[.bool false, .int .i64 1] W fun e w' => e = .returned (.int .i64 1) ∧ W = w') := fun W => signed_any false 1 (by omega) (by omega) W
        clear hs
        go_wp2_with fail
        (with_reducible refine (hsg.out _).mono ?_)
        rintro e w8 ⟨rfl, rfl⟩
        go_wp2
        rw [HP.out]
        exact ⟨by rw [hres.out]; rfl, HBw1.out⟩
end Go.Proofs.Ytdfklcmiagmgaaa
