/- Walks: the calls that each law makes at its end. -/
import Derived.Test.YtdfklcmiagmgaaaWD7
namespace Go.Proofs.Ytdfklcmiagmgaaa
set_option linter.all false
open Go.RowKit Go.Shelf Go.WideNum
theorem below_viaD {a b c : World} (h : Below a.heap.size a b) (k : Below b.drew.heap.size b.drew c) : Below a.heap.size a c := (h.drew).trans (k.mono h.size)
theorem sh_read (W : World) : Calls Try.prog 12 #[.string ⟨#[45, 49, 50]⟩] W fun e w' => e = .returned (.tuple #[.agg #[.bool true, .string ⟨#[12]⟩], .int .i64 0]) ∧ Below W.heap.size W w' := by
  have h := Read_any ⟨#[45, 49, 50]⟩ (by decide) W
  have e : readZ (⟨#[45, 49, 50]⟩ : ByteArray).data.toList = (.agg #[.bool true, .string ⟨#[12]⟩], 0) := by kernel_rfl
  rw [e] at h
  exact h
theorem sh_text (W : World) : Calls Try.prog 14 #[.agg #[.bool true, .string ⟨#[12]⟩]] W fun e w' => e = .returned (.tuple #[.string ⟨#[45, 49, 50]⟩, .int .i64 0]) ∧ Below W.heap.size W w' := by
  have h := Text_any true ⟨#[12]⟩ (by decide) W
  unfold TextRet at h
  have e1 : validB true ⟨#[12]⟩ = true := by kernel_rfl
  have e2 : textB true (numB ⟨#[12]⟩) = ⟨#[45, 49, 50]⟩ := by kernel_rfl
  rw [e1, e2] at h
  exact h
theorem sh_of (n : Int) (v : Value) (h1 : -9223372036854775808 ≤ n) (h2 : n < 9223372036854775808) (hv : outZ n = v) (W : World) : Calls Try.prog 20 #[.int .i64 n] W fun e w' => e = .returned v ∧ Below W.heap.size W w' := by
  have h := Of_any n h1 h2 W
  rwa [hv] at h
theorem small_len (n : Nat) (h : n < 4294967296) : (wd n).length ≤ 2000 := by
  have := words_length (B := 4294967296) (by omega) n 1 (by omega)
  unfold wd; omega
theorem sh_div (W : World) : Calls Try.prog 32 #[.agg #[.bool true, .string ⟨#[7]⟩], .agg #[.bool true, .string ⟨#[2]⟩]] W fun e w' => e = .returned (.tuple #[.agg #[.bool false, .string ⟨#[4]⟩], .agg #[.bool false, .string ⟨#[1]⟩], .int .i64 0]) ∧ Below W.heap.size W w' := by
  have h := Div_any true ⟨#[7]⟩ true ⟨#[2]⟩ (by decide) (by decide) (fun _ _ _ => by
    have e1 : numB ⟨#[7]⟩ = 7 := by kernel_rfl
    have e2 : numB ⟨#[2]⟩ = 2 := by kernel_rfl
    rw [e1, e2]
    exact divide_small 7 2 (by omega) (Or.inr (by omega)) (small_len 7 (by omega)) (small_len 2 (by omega))) W
  have e : divF true ⟨#[7]⟩ true ⟨#[2]⟩ = (.agg #[.bool false, .string ⟨#[4]⟩], .agg #[.bool false, .string ⟨#[1]⟩], 0) := by kernel_rfl
  rw [e] at h
  exact h
theorem sh_bal (W : World) : Calls Try.prog 36 #[.agg #[.bool false, .string ⟨#[7]⟩], .agg #[.bool false, .string ⟨#[4]⟩]] W fun e w' => e = .returned (.tuple #[.agg #[.bool true, .string ⟨#[1]⟩], .int .i64 0]) ∧ Below W.heap.size W w' := by
  have h := Balanced_any false ⟨#[7]⟩ false ⟨#[4]⟩ (by decide) (by decide) (fun _ _ _ => by
    have e1 : numB ⟨#[7]⟩ = 7 := by kernel_rfl
    have e2 : numB ⟨#[4]⟩ = 4 := by kernel_rfl
    rw [e1, e2]
    exact divide_small 7 4 (by omega) (Or.inr (by omega)) (small_len 7 (by omega)) (small_len 4 (by omega))) W
  have e : balF false ⟨#[7]⟩ false ⟨#[4]⟩ = (.agg #[.bool true, .string ⟨#[1]⟩], 0) := by kernel_rfl
  rw [e] at h
  exact h
theorem shl_out (k : Nat) (hk : k = 8 * 256) : ¬ (zOf false (1 * 2 ^ k)).natAbs < lim := by
  rw [zOf_natAbs]
  unfold lim
  have h : ∀ m : Nat, 256 ^ m = 2 ^ (8 * m) := fun m => by rw [Nat.pow_mul]
  rw [h, ← hk, Nat.one_mul]
  exact Nat.lt_irrefl _
theorem sh_shl (W : World) : Calls Try.prog 49 #[.agg #[.bool false, .string ⟨#[1]⟩], .int .i64 2048] W fun e w' => e = .returned (.tuple #[.agg #[.bool false, .string ⟨#[]⟩], .int .i64 7]) ∧ Below W.heap.size W w' := by
  obtain ⟨k, hk⟩ : ∃ k, k = 8 * 256 := ⟨_, rfl⟩
  have h := Shl_ok false ⟨#[1]⟩ (by decide) (by kernel_rfl) k (by omega) 2048 (by omega) W
  have e1 : numB ⟨#[1]⟩ = 1 := by kernel_rfl
  have e2 := shl_out k hk
  rw [e1, (outZ_out _ e2).1, (outZ_out _ e2).2] at h
  exact h
set_option maxRecDepth 100000 in
set_option maxHeartbeats 8000000 in
theorem shown_any (w : World) : Calls Try.prog 11 #[] w fun e w' => e = .returned (.bool true) ∧ Below w.heap.size w w' := by
  have HR := Lib.hid sh_read
  have HT := Lib.hid sh_text
  have HD := Lib.hid sh_div
  have HB := Lib.hid sh_bal
  have HS := Lib.hid sh_shl
  have HO1 := Lib.hid (sh_of (-7) (.agg #[.bool true, .string ⟨#[7]⟩]) (by omega) (by omega) (by kernel_rfl))
  have HO2 := Lib.hid (sh_of (-2) (.agg #[.bool true, .string ⟨#[2]⟩]) (by omega) (by omega) (by kernel_rfl))
  have HO3 := Lib.hid (sh_of 1 (.agg #[.bool false, .string ⟨#[1]⟩]) (by omega) (by omega) (by kernel_rfl))
  have HO4 := Lib.hid (sh_of 7 (.agg #[.bool false, .string ⟨#[7]⟩]) (by omega) (by omega) (by kernel_rfl))
  have HO5 := Lib.hid (sh_of 4 (.agg #[.bool false, .string ⟨#[4]⟩]) (by omega) (by omega) (by kernel_rfl))
  have HO6 := Lib.hid (sh_of (-1) (.agg #[.bool true, .string ⟨#[1]⟩]) (by omega) (by omega) (by kernel_rfl))
  have HO7 := Lib.hid (sh_of (-256) (.agg #[.bool true, .string ⟨#[1, 0]⟩]) (by omega) (by omega) (by kernel_rfl))
  go_enter Try.func11, Try.ntmps11
  go_wp2_with fail
  (with_reducible refine (HR.out _).mono ?_)
  rintro e w1 ⟨rfl, hb1⟩
  have B1 := Lib.hid hb1
  clear hb1
  go_wp2_with fail
  (with_reducible refine (HT.out _).mono ?_)
  rintro e w2 ⟨rfl, hb2⟩
  have B2 := Lib.hid (below_via (below_via B1.out ((Below.refl w1.heap.size w1).alloc (Nat.le_refl _) _)) hb2)
  clear hb2
  go_wp2_with fail
  (with_reducible refine (HO1.out _).mono ?_)
  rintro e w3 ⟨rfl, hb3⟩
  have B3 := Lib.hid (below_via B2.out hb3)
  clear hb3
  go_wp2_with fail
  (with_reducible refine (HO2.out _).mono ?_)
  rintro e w4 ⟨rfl, hb4⟩
  have B4 := Lib.hid (below_via B3.out hb4)
  clear hb4
  go_wp2_with fail
  (with_reducible refine (HD.out _).mono ?_)
  rintro e w5 ⟨rfl, hb5⟩
  have B5 := Lib.hid (below_via B4.out hb5)
  clear hb5
  go_wp2_with fail
  (with_reducible refine (HO3.out _).mono ?_)
  rintro e w6 ⟨rfl, hb6⟩
  have k4 := (hb6.block w5.heap.size (by simp; omega)).trans ((Below.heap_alloc _ _ _ (by simp)).trans (heap_alloc_new w5 _))
  have k5 := (hb6.block (w5.heap.size + 1) (by simp)).trans (alloc_last _ _ (by simp))
  have B6 := Lib.hid (below_via (below_via (below_via B5.out ((Below.refl w5.heap.size w5).alloc (Nat.le_refl _) _)) ((Below.refl _ _).alloc (Nat.le_refl _) _)) hb6)
  have K4 := Lib.hid k4
  have K5 := Lib.hid k5
  clear hb6 k4 k5
  go_wp2_with fail
  (with_reducible refine (HS.out _).mono ?_)
  rintro e w7 ⟨rfl, hb7⟩
  have B7 := Lib.hid (below_via B6.out hb7)
  have K47 := Lib.hid ((hb7.block _ (lt_of_heap K4.out)).trans K4.out)
  have K57 := Lib.hid ((hb7.block _ (lt_of_heap K5.out)).trans K5.out)
  clear hb7
  go_wp2_with fail
  (with_reducible refine (HO4.out _).mono ?_)
  rintro e w8 ⟨rfl, hb8⟩
  have hb78 := below_via ((Below.refl w7.heap.size w7).alloc (Nat.le_refl _) _) hb8
  have B8 := Lib.hid (below_via B7.out hb78)
  have K48 := Lib.hid ((hb78.block _ (lt_of_heap K47.out)).trans K47.out)
  have K58 := Lib.hid ((hb78.block _ (lt_of_heap K57.out)).trans K57.out)
  clear hb8 hb78
  go_wp2_with fail
  (with_reducible refine (HO5.out _).mono ?_)
  rintro e w9 ⟨rfl, hb9⟩
  have B9 := Lib.hid (below_via B8.out hb9)
  have K49 := Lib.hid ((hb9.block _ (lt_of_heap K48.out)).trans K48.out)
  have K59 := Lib.hid ((hb9.block _ (lt_of_heap K58.out)).trans K58.out)
  clear hb9
  go_wp2_with fail
  (with_reducible refine (HB.out _).mono ?_)
  rintro e w10 ⟨rfl, hb10⟩
  have B10 := Lib.hid (below_via B9.out hb10)
  have K410 := Lib.hid ((hb10.block _ (lt_of_heap K49.out)).trans K49.out)
  have K510 := Lib.hid ((hb10.block _ (lt_of_heap K59.out)).trans K59.out)
  clear hb10
  go_wp2_with fail
  have hb11 : Below w10.heap.size w10 (w10.alloc (.cells #[.bool true, .string ⟨#[1]⟩] 23)) := (Below.refl w10.heap.size w10).alloc (Nat.le_refl _) _
  have k4 := (hb11.block _ (lt_of_heap K410.out)).trans K410.out
  have k5 := (hb11.block _ (lt_of_heap K510.out)).trans K510.out
  have k6 := heap_alloc_new w10 (.cells #[.bool true, .string ⟨#[1]⟩] 23)
  have B11 := Lib.hid (below_via B10.out hb11)
  obtain ⟨c0, c1, -⟩ := wide_cells k4
  obtain ⟨c2, c3, -⟩ := wide_cells k5
  obtain ⟨c4, c5, -⟩ := wide_cells k6
  have l0 := lt_of_heap k4
  have l1 := lt_of_heap k5
  have l2 := lt_of_heap k6
  clear hb11 k4 k5 k6
  generalize w10.alloc (.cells #[.bool true, .string ⟨#[1]⟩] 23) = w11 at c0 c1 c2 c3 c4 c5 l0 l1 l2 B11 ⊢
  go_region_held3 (fun w' => (w'.cell? ⟨w5.heap.size, 0, none⟩ = some (.bool false) ∧ w'.cell? ⟨w5.heap.size, 1, none⟩ = some (.string ⟨#[4]⟩) ∧ w'.cell? ⟨w5.heap.size + 1, 0, none⟩ = some (.bool false) ∧ w'.cell? ⟨w5.heap.size + 1, 1, none⟩ = some (.string ⟨#[1]⟩) ∧ w'.cell? ⟨w10.heap.size, 0, none⟩ = some (.bool true) ∧ w'.cell? ⟨w10.heap.size, 1, none⟩ = some (.string ⟨#[1]⟩)))
    (first | exact ⟨c0, c1, c2, c3, c4, c5⟩ | (refine ⟨?_, ?_, ?_, ?_, ?_, ?_⟩ <;> assumption))
    (first
      | (go_simp; go_at_call 20; (with_reducible refine (HO5.out _).mono ?_); rintro e w12 ⟨rfl, hb12⟩; have d0 := (hb12.cell (p := ⟨w5.heap.size, 0, none⟩) l0).trans c0; have d1 := (hb12.cell (p := ⟨w5.heap.size, 1, none⟩) l0).trans c1; have d2 := (hb12.cell (p := ⟨w5.heap.size + 1, 0, none⟩) l1).trans c2; have d3 := (hb12.cell (p := ⟨w5.heap.size + 1, 1, none⟩) l1).trans c3; have d4 := (hb12.cell (p := ⟨w10.heap.size, 0, none⟩) l2).trans c4; have d5 := (hb12.cell (p := ⟨w10.heap.size, 1, none⟩) l2).trans c5; have m0 := Nat.lt_of_lt_of_le l0 hb12.size; have m1 := Nat.lt_of_lt_of_le l1 hb12.size; have m2 := Nat.lt_of_lt_of_le l2 hb12.size; have B12 : Hid (Below w.heap.size w w12) := (by first | exact below_viaD B11.out hb12 | exact below_via B11.out hb12); clear hb12)
      | (go_simp; go_at_call 20; (with_reducible refine (HO3.out _).mono ?_); rintro e w13 ⟨rfl, hb13⟩; have f0 := (hb13.cell (p := ⟨w5.heap.size, 0, none⟩) m0).trans d0; have f1 := (hb13.cell (p := ⟨w5.heap.size, 1, none⟩) m0).trans d1; have f2 := (hb13.cell (p := ⟨w5.heap.size + 1, 0, none⟩) m1).trans d2; have f3 := (hb13.cell (p := ⟨w5.heap.size + 1, 1, none⟩) m1).trans d3; have f4 := (hb13.cell (p := ⟨w10.heap.size, 0, none⟩) m2).trans d4; have f5 := (hb13.cell (p := ⟨w10.heap.size, 1, none⟩) m2).trans d5; have p0 := Nat.lt_of_lt_of_le m0 hb13.size; have p1 := Nat.lt_of_lt_of_le m1 hb13.size; have p2 := Nat.lt_of_lt_of_le m2 hb13.size; have B13 : Hid (Below w.heap.size w w13) := (by first | exact below_viaD B12.out hb13 | exact below_via B12.out hb13); clear hb13)
      | (go_simp; go_at_call 20; (with_reducible refine (HO6.out _).mono ?_); rintro e w14 ⟨rfl, hb14⟩; have g0 := (hb14.cell (p := ⟨w5.heap.size, 0, none⟩) p0).trans f0; have g1 := (hb14.cell (p := ⟨w5.heap.size, 1, none⟩) p0).trans f1; have g2 := (hb14.cell (p := ⟨w5.heap.size + 1, 0, none⟩) p1).trans f2; have g3 := (hb14.cell (p := ⟨w5.heap.size + 1, 1, none⟩) p1).trans f3; have g4 := (hb14.cell (p := ⟨w10.heap.size, 0, none⟩) p2).trans f4; have g5 := (hb14.cell (p := ⟨w10.heap.size, 1, none⟩) p2).trans f5; have q0 := Nat.lt_of_lt_of_le p0 hb14.size; have q1 := Nat.lt_of_lt_of_le p1 hb14.size; have q2 := Nat.lt_of_lt_of_le p2 hb14.size; have B14 : Hid (Below w.heap.size w w14) := (by first | exact below_viaD B13.out hb14 | exact below_via B13.out hb14); clear hb14)
      | (go_simp; go_at_call 20; (with_reducible refine (HO7.out _).mono ?_); rintro e w15 ⟨rfl, hb15⟩; have r0 := (hb15.cell (p := ⟨w5.heap.size, 0, none⟩) q0).trans g0; have r1 := (hb15.cell (p := ⟨w5.heap.size, 1, none⟩) q0).trans g1; have r2 := (hb15.cell (p := ⟨w5.heap.size + 1, 0, none⟩) q1).trans g2; have r3 := (hb15.cell (p := ⟨w5.heap.size + 1, 1, none⟩) q1).trans g3; have r4 := (hb15.cell (p := ⟨w10.heap.size, 0, none⟩) q2).trans g4; have r5 := (hb15.cell (p := ⟨w10.heap.size, 1, none⟩) q2).trans g5; have u0 := Nat.lt_of_lt_of_le q0 hb15.size; have u1 := Nat.lt_of_lt_of_le q1 hb15.size; have u2 := Nat.lt_of_lt_of_le q2 hb15.size; have B15 : Hid (Below w.heap.size w w15) := (by first | exact below_viaD B14.out hb15 | exact below_via B14.out hb15); clear hb15))
  go_wp2
  go_ret
  exact ⟨rfl, B15.out⟩
end Go.Proofs.Ytdfklcmiagmgaaa
