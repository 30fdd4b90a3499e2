/- Walks: the law of forms. -/
import Derived.Test.YtdfklcmiagmgaaaXF3
import Derived.Test.YtdfklcmiagmgaaaLB1
namespace Go.Proofs.Ytdfklcmiagmgaaa
set_option linter.all false
open Go.RowKit Go.Shelf Go.WideNum
theorem i64_bounds {z : Int} (h : (Lit.int .i64 z).wf = true) : -9223372036854775808 ≤ z ∧ z < 9223372036854775808 := by
  have h2 : IntKind.i64.min ≤ z ∧ z ≤ IntKind.i64.max := by simpa [Lit.wf] using h
  have h3 : IntKind.i64.min = -9223372036854775808 := by decide
  have h4 : IntKind.i64.max = 9223372036854775807 := by decide
  omega
theorem great1 (na : Bool) (sa : ByteArray) (hsa : sa.size ≤ maxLen) (W : World) (g : Nat) (h : W.heap[g]? = some (.cells #[.bool na, .string sa] 23)) :
    Calls Try.prog 10 #[.slice (some ⟨g, 0, none⟩) 1 1] W fun e w' => e = .returned (.bool (decide (300 < sa.size))) ∧ W = w' := by
  have hf : World.forms W g [(na, sa)] := by
    intro k x hk
    rcases k with _ | k
    · cases hk
      obtain ⟨c0, c1, -⟩ := wide_cells h
      exact ⟨c0, c1⟩
    · cases hk
  have := great_any [(na, sa)] g (by simp) (by simp; exact hsa) W hf
  simpa using this
theorem int_of (n : Int) (h1 : -9223372036854775808 ≤ n) (h2 : n < 9223372036854775808) (fb : Bool) (ft : ByteArray) (h : outZ n = .agg #[.bool fb, .string ft]) : intB fb ft = (n, 0) ∧ ft.size ≤ maxLen := by
  have hlim : n.natAbs < lim := by have := lim_big; omega
  rw [(outZ_in n hlim).1] at h
  obtain ⟨e1, e2⟩ := wideV_inj (a := decide (n < 0)) (b := fb) (s := magB n.natAbs) (t := ft) h
  subst e1 e2
  obtain ⟨v1, v2⟩ := valid_magB (decide (n < 0)) n.natAbs hlim (fun hh => by have := of_decide_eq_true hh; omega)
  refine ⟨?_, by have := (valid_spec _ _ v1).2.2.2; unfold maxLen; omega⟩
  unfold intB
  rw [v1, if_pos rfl, v2]
  unfold intN
  by_cases hn : n < 0
  · rw [decide_eq_true hn, if_pos rfl, if_pos (by omega)]
    congr 1; omega
  · rw [decide_eq_false hn, if_neg (by decide), if_pos (by omega)]
    congr 1; omega
set_option maxRecDepth 100000 in
set_option maxHeartbeats 8000000 in
theorem forms_law (nx : Bool) (sx : ByteArray) (hsx : sx.size ≤ maxLen) (n : Int) (hwf : (Lit.int .i64 n).wf = true) (w : World) :
    Calls Try.prog 5 #[.agg #[.bool nx, .string sx], .int .i64 n] w fun e w' => e = .returned (.bool true) ∧ Below w.heap.size w w' := by
  obtain ⟨hn1, hn2⟩ := i64_bounds hwf
  clear hwf
  have HSH := Lib.hid shown_any
  obtain ⟨R, E, hI⟩ : ∃ R E, intB nx sx = (R, E) := ⟨_, _, rfl⟩
  obtain ⟨fb, ft, hO⟩ := outZ_agg n
  obtain ⟨hI2, hft⟩ := int_of n hn1 hn2 fb ft hO
  have HI := Lib.hid (Int_any nx sx hsx R E hI)
  have HRI := Lib.hid (refInt_any nx sx hsx R E hI)
  have HI2 := Lib.hid (Int_any fb ft hft n 0 hI2)
  have HOF : Hid (∀ W : World, Calls Try.prog 20 #[.int .i64 n] W fun e w' => e = .returned (.agg #[.bool fb, .string ft]) ∧ Below W.heap.size W w') := fun W => by
    have := Of_any n hn1 hn2 W
    rwa [hO] at this
  have HROF := Lib.hid (refOf_any n hn1 hn2 fb ft hO)
  have HV := Lib.hid (Valid_wide nx sx hsx)
  obtain ⟨vx, hvx⟩ : ∃ b, b = validB nx sx := ⟨_, rfl⟩
  have HRV := Lib.hid (refValid_wide nx sx hsx vx hvx)
  rw [← hvx] at HV
  have hb0 : Below w.heap.size w (w.alloc (.cells #[.bool nx, .string sx] 23)) := (Below.refl _ w).alloc (Nat.le_refl _) _
  have hg0 : (w.alloc (.cells #[.bool nx, .string sx] 23)).heap[w.heap.size]? = some (.cells #[.bool nx, .string sx] 23) := heap_alloc_new w _
  have hz0 : (w.alloc (.cells #[.bool nx, .string sx] 23)).heap.size = w.heap.size + 1 := by simp
  have HG0 := Lib.hid hg0
  have HB0 := Lib.hid hb0
  have hcx : Hid (∀ W, Below (w.heap.size + 1) (w.alloc (.cells #[.bool nx, .string sx] 23)) W → W.cell? ⟨w.heap.size, 0, none⟩ = some (.bool nx) ∧ W.cell? ⟨w.heap.size, 1, none⟩ = some (.string sx)) := fun W hb => by
    obtain ⟨c0, c1, -⟩ := wide_cells ((hb.block _ (by omega)).trans hg0)
    exact ⟨c0, c1⟩
  have HGR : Hid (∀ W : World, Calls Try.prog 10 #[.slice (some ⟨W.heap.size, 0, none⟩) 1 1] (W.alloc (.cells #[.bool nx, .string sx] 23)) fun e w' => e = .returned (.bool (decide (300 < sx.size))) ∧ W.alloc (.cells #[.bool nx, .string sx] 23) = w') := fun W => great1 nx sx hsx _ _ (heap_alloc_new W _)
  obtain ⟨gr, hgr⟩ : ∃ gr, gr = decide (300 < sx.size) := ⟨_, rfl⟩
  rw [← hgr] at HGR
  clear hI hO hI2 hft hvx hb0 hg0 hz0 hgr
  obtain ⟨W0, hW0⟩ : ∃ W0, W0 = w.alloc (.cells #[.bool nx, .string sx] 23) := ⟨_, rfl⟩
  rw [← hW0] at HG0 HB0 hcx
  have hz0 : W0.heap.size = w.heap.size + 1 := by rw [hW0]; simp
  have HZ0 := Lib.hid hz0
  have HW0 := Lib.hid hW0
  clear hW0 hz0
  obtain ⟨c0, c1, f0⟩ := wide_cells HG0.out
  go_enter Try.func5, Try.ntmps5
  go_upto_region 1 with (fail)
  rw [← HW0.out]
  go_wp2_with fail
  (with_reducible refine (HGR.out _).mono ?_)
  rintro e w1 ⟨rfl, rfl⟩
  have hb1 : Below W0.heap.size W0 (W0.alloc (.cells #[.bool nx, .string sx] 23)) := (Below.refl _ W0).alloc (Nat.le_refl _) _
  generalize W0.alloc (.cells #[.bool nx, .string sx] 23) = w1 at hb1 ⊢
  have HB1 := Lib.hid hb1
  clear hb1 c0 c1 f0
  cases gr with
  | true =>
    go_wp2_with fail
    (with_reducible refine (HSH.out _).mono ?_)
    rintro e w2 ⟨rfl, hb2⟩
    have HB2 := Lib.hid (HB0.out.trans ((below_via HB1.out hb2).mono HB0.out.size))
    clear hb2
    go_wp2
    go_ret
    exact ⟨rfl, HB2.out⟩
  | false =>
    obtain ⟨c0, c1⟩ := hcx.out w1 (by rw [← HZ0.out]; exact HB1.out)
    go_wp2_with fail
    (with_reducible refine (HI.out _).mono ?_)
    rintro e w2 ⟨rfl, hb2⟩
    have HB2 := Lib.hid (below_via HB1.out hb2)
    clear hb2 c0 c1
    obtain ⟨c0, c1⟩ := hcx.out w2 (by rw [← HZ0.out]; exact HB2.out)
    go_wp2_with fail
    (with_reducible refine (HRI.out _).mono ?_)
    rintro e w3 ⟨rfl, hb3⟩
    have HB3 := Lib.hid (below_via HB2.out hb3)
    clear hb3 c0 c1
    go_wp2_with fail
    (with_reducible refine (HOF.out _).mono ?_)
    rintro e w4 ⟨rfl, hb4⟩
    have HB4 := Lib.hid (below_via HB3.out hb4)
    clear hb4
    go_wp2_with fail
    (with_reducible refine (HI2.out _).mono ?_)
    rintro e w5 ⟨rfl, hb5⟩
    have HB5 := Lib.hid (below_via HB4.out hb5)
    clear hb5
    obtain ⟨c0, c1⟩ := hcx.out w5 (by rw [← HZ0.out]; exact HB5.out)
    go_wp2_with fail
    refine wp_region_late (fun w' => w'.cell? ⟨w.heap.size, 0, none⟩ = some (.bool nx) ∧ w'.cell? ⟨w.heap.size, 1, none⟩ = some (.string sx)) (fun _ => false) (by kernel_rfl) ⟨c0, c1⟩ (fun hHeld => ?_)
    refine wpAnyD_takeW 0 (v := ?_) (by kernel_rfl) rfl (by kernel_rfl) (by kernel_rfl) (fun _ _ _ h => h) (Or.inl ⟨by rfl, ?_⟩) ?_
    rotate_left
    · (intro wq hSq; (try dsimp only at hSq); go_simp; try with_reducible rfl)
    try simp only [Act.put, List.setIfInBounds_toArray, List.set_cons_zero, List.set_cons_succ]
    refine wpAnyD_takeW 1 (v := ?_) (by kernel_rfl) rfl (by kernel_rfl) (by kernel_rfl) (fun _ _ _ h => h) (Or.inl ⟨by rfl, ?_⟩) ?_
    rotate_left
    · (intro wq hSq; (try dsimp only at hSq); go_simp; try with_reducible rfl)
    try simp only [Act.put, List.setIfInBounds_toArray, List.set_cons_zero, List.set_cons_succ]
    refine wpAnyD_takeW 2 (v := ?_) (by kernel_rfl) rfl (by kernel_rfl) (by kernel_rfl) (fun _ _ _ h => h) (Or.inl ⟨by rfl, ?_⟩) ?_
    rotate_left
    · (intro wq hSq; (try dsimp only at hSq); go_simp; try with_reducible rfl)
    try simp only [Act.put, List.setIfInBounds_toArray, List.set_cons_zero, List.set_cons_succ]
    refine wpAnyD_takeW 3 (v := ?_) (by kernel_rfl) rfl (by kernel_rfl) (by kernel_rfl) (fun _ _ _ h => h) (Or.inl ⟨by rfl, ?_⟩) ?_
    rotate_left
    · (intro wq hSq; (try dsimp only at hSq); go_simp; try with_reducible rfl)
    try simp only [Act.put, List.setIfInBounds_toArray, List.set_cons_zero, List.set_cons_succ]
    refine wpAnyD_takeW 4 (v := ?_) (by kernel_rfl) rfl (by kernel_rfl) (by kernel_rfl) (fun _ _ _ h => h) (Or.inl ⟨by rfl, ?_⟩) ?_
    rotate_left
    · (intro wq hSq; (try dsimp only at hSq); go_simp; try with_reducible rfl)
    try simp only [Act.put, List.setIfInBounds_toArray, List.set_cons_zero, List.set_cons_succ]
    refine wpAnyD_takeW 5 (v := ?_) (by kernel_rfl) rfl (by kernel_rfl) (by kernel_rfl) (fun _ _ _ h => h) (Or.inl ⟨by rfl, ?_⟩) ?_
    rotate_left
    · (intro wq hSq; (try dsimp only at hSq); go_simp; try with_reducible rfl)
    try simp only [Act.put, List.setIfInBounds_toArray, List.set_cons_zero, List.set_cons_succ]
    refine wpAnyD_takeW 6 (v := ?_) (by kernel_rfl) rfl (by kernel_rfl) (by kernel_rfl) (fun _ _ _ h => h) (Or.inl ⟨by rfl, ?_⟩) ?_
    rotate_left
    · (intro wq hSq; (try dsimp only at hSq); go_simp; try with_reducible rfl)
    try simp only [Act.put, List.setIfInBounds_toArray, List.set_cons_zero, List.set_cons_succ]
    refine wpAnyD_takeW 7 (v := ?_) (by kernel_rfl) rfl (by kernel_rfl) (by kernel_rfl) (fun _ _ _ h => h) (Or.inl ⟨by rfl, ?_⟩) ?_
    rotate_left
    · (intro wq hSq; (try dsimp only at hSq); go_simp; try with_reducible rfl)
    try simp only [Act.put, List.setIfInBounds_toArray, List.set_cons_zero, List.set_cons_succ]
    refine wpAnyD_takeW 8 (v := ?_) (by kernel_rfl) rfl (by kernel_rfl) (by kernel_rfl) (fun _ _ _ h => h) (Or.inl ⟨by rfl, ?_⟩) ?_
    rotate_left
    · (intro wq hSq; (try dsimp only at hSq); go_simp; try with_reducible rfl)
    try simp only [Act.put, List.setIfInBounds_toArray, List.set_cons_zero, List.set_cons_succ]
    refine wpAnyD_take 9 (v := ?_) (by kernel_rfl) (by kernel_rfl) rfl (by kernel_rfl) (by kernel_rfl) (fun _ _ _ h => h) (Or.inl ⟨by rfl, ?_⟩) (by assumption) ?_
    rotate_left
    · (intro wq hSq; (try dsimp only at hSq); go_simp; try with_reducible rfl)
    try simp only [Act.put, List.setIfInBounds_toArray, List.set_cons_zero, List.set_cons_succ]
    refine wpAnyD_take 11 (v := ?_) (by kernel_rfl) (by kernel_rfl) rfl (by kernel_rfl) (by kernel_rfl) (fun _ _ _ h => h) (Or.inl ⟨by rfl, ?_⟩) (by assumption) ?_
    rotate_left
    · (intro wq hSq; (try dsimp only at hSq); go_simp; try with_reducible rfl)
    try simp only [Act.put, List.setIfInBounds_toArray, List.set_cons_zero, List.set_cons_succ]
    clear c0 c1
    refine wpAnyD_keep 10 (by kernel_rfl) rfl (fun K hK => ?_)
    go_simp
    go_at_call 16
    (with_reducible refine (HV.out _).mono ?_)
    rintro e w6 ⟨rfl, hbu⟩
    have HB6 := Lib.hid (below_viaD HB5.out hbu)
    clear hbu
    obtain ⟨c0, c1⟩ := hcx.out w6 (by rw [← HZ0.out]; exact HB6.out)
    refine hK.out _ _ ⟨c0, c1⟩ (fun hHeld2 => ?_)
    clear hK K hHeld c0 c1
    try simp only [Act.put, List.setIfInBounds_toArray, List.set_cons_zero, List.set_cons_succ]
    refine wpAnyD_keep 12 (by kernel_rfl) rfl (fun K hK => ?_)
    go_simp
    go_at_call 21
    (with_reducible refine (HRV.out _).mono ?_)
    rintro e w7 ⟨rfl, hbu⟩
    have HB7 := Lib.hid (below_via HB6.out hbu)
    clear hbu
    obtain ⟨c0, c1⟩ := hcx.out w7 (by rw [← HZ0.out]; exact HB7.out)
    refine hK.out _ _ ⟨c0, c1⟩ (fun hHeld3 => ?_)
    clear hK K hHeld2 c0 c1
    try simp only [Act.put, List.setIfInBounds_toArray, List.set_cons_zero, List.set_cons_succ]
    refine wpAnyD_takeW 13 (v := ?_) (by kernel_rfl) rfl (by kernel_rfl) (by kernel_rfl) (fun _ _ _ h => h) (Or.inl ⟨by rfl, ?_⟩) ?_
    rotate_left
    · (intro wq hSq; (try dsimp only at hSq); go_simp; try with_reducible rfl)
    try simp only [Act.put, List.setIfInBounds_toArray, List.set_cons_zero, List.set_cons_succ]
    refine wpAnyD_takeW 14 (v := ?_) (by kernel_rfl) rfl (by kernel_rfl) (by kernel_rfl) (fun _ _ _ h => h) (Or.inl ⟨by rfl, ?_⟩) ?_
    rotate_left
    · (intro wq hSq; (try dsimp only at hSq); go_simp; try with_reducible rfl)
    try simp only [Act.put, List.setIfInBounds_toArray, List.set_cons_zero, List.set_cons_succ]
    refine wpAnyD_takeW 15 (v := ?_) (by kernel_rfl) rfl (by kernel_rfl) (by kernel_rfl) (fun _ _ _ h => h) (Or.inl ⟨by rfl, ?_⟩) ?_
    rotate_left
    · (intro wq hSq; (try dsimp only at hSq); go_simp; try with_reducible rfl)
    try simp only [Act.put, List.setIfInBounds_toArray, List.set_cons_zero, List.set_cons_succ]
    refine wpAnyD_takeW 16 (v := ?_) (by kernel_rfl) rfl (by kernel_rfl) (by kernel_rfl) (fun _ _ _ h => h) (Or.inl ⟨by rfl, ?_⟩) ?_
    rotate_left
    · (intro wq hSq; (try dsimp only at hSq); go_simp; try with_reducible rfl)
    try simp only [Act.put, List.setIfInBounds_toArray, List.set_cons_zero, List.set_cons_succ]
    refine wpAnyD_takeW 18 (v := ?_) (by kernel_rfl) rfl (by kernel_rfl) (by kernel_rfl) (fun _ _ _ h => h) (Or.inl ⟨by rfl, ?_⟩) ?_
    rotate_left
    · (intro wq hSq; (try dsimp only at hSq); go_simp; try with_reducible rfl)
    try simp only [Act.put, List.setIfInBounds_toArray, List.set_cons_zero, List.set_cons_succ]
    refine wpAnyD_keep 17 (by kernel_rfl) rfl (fun K hK => ?_)
    go_simp
    go_at_call 20
    (with_reducible refine (HOF.out _).mono ?_)
    rintro e w8 ⟨rfl, hbu⟩
    have HB8 := Lib.hid (below_via HB7.out hbu)
    clear hbu
    obtain ⟨c0, c1⟩ := hcx.out w8 (by rw [← HZ0.out]; exact HB8.out)
    refine hK.out _ _ ⟨c0, c1⟩ (fun hHeld4 => ?_)
    clear hK K hHeld3 c0 c1
    try simp only [Act.put, List.setIfInBounds_toArray, List.set_cons_zero, List.set_cons_succ]
    refine wpAnyD_keep 19 (by kernel_rfl) rfl (fun K hK => ?_)
    go_simp
    go_at_call 22
    (with_reducible refine (HROF.out _).mono ?_)
    rintro e w9 ⟨rfl, hbu⟩
    have HB9 := Lib.hid (below_via HB8.out hbu)
    clear hbu
    obtain ⟨c0, c1⟩ := hcx.out w9 (by rw [← HZ0.out]; exact HB9.out)
    refine hK.out _ _ ⟨c0, c1⟩ (fun hHeld5 => ?_)
    clear hK K hHeld4 c0 c1
    try simp only [Act.put, List.setIfInBounds_toArray, List.set_cons_zero, List.set_cons_succ]
    refine wpAnyD_takeW 20 (v := ?_) (by kernel_rfl) rfl (by kernel_rfl) (by kernel_rfl) (fun _ _ _ h => h) (Or.inl ⟨by rfl, ?_⟩) ?_
    rotate_left
    · (intro wq hSq; (try dsimp only at hSq); go_simp; try with_reducible rfl)
    try simp only [Act.put, List.setIfInBounds_toArray, List.set_cons_zero, List.set_cons_succ]
    refine wpAnyD_takeW 21 (v := ?_) (by kernel_rfl) rfl (by kernel_rfl) (by kernel_rfl) (fun _ _ _ h => h) (Or.inl ⟨by rfl, ?_⟩) ?_
    rotate_left
    · (intro wq hSq; (try dsimp only at hSq); go_simp; try with_reducible rfl)
    try simp only [Act.put, List.setIfInBounds_toArray, List.set_cons_zero, List.set_cons_succ]
    refine wpAnyD_takeW 22 (v := ?_) (by kernel_rfl) rfl (by kernel_rfl) (by kernel_rfl) (fun _ _ _ h => h) (Or.inl ⟨by rfl, ?_⟩) ?_
    rotate_left
    · (intro wq hSq; (try dsimp only at hSq); go_simp; try with_reducible rfl)
    try simp only [Act.put, List.setIfInBounds_toArray, List.set_cons_zero, List.set_cons_succ]
    refine wpAnyD_takeW 23 (v := ?_) (by kernel_rfl) rfl (by kernel_rfl) (by kernel_rfl) (fun _ _ _ h => h) (Or.inl ⟨by rfl, ?_⟩) ?_
    rotate_left
    · (intro wq hSq; (try dsimp only at hSq); go_simp; try with_reducible rfl)
    try simp only [Act.put, List.setIfInBounds_toArray, List.set_cons_zero, List.set_cons_succ]
    refine wpAnyD_takeW 24 (v := ?_) (by kernel_rfl) rfl (by kernel_rfl) (by kernel_rfl) (fun _ _ _ h => h) (Or.inl ⟨by rfl, ?_⟩) ?_
    rotate_left
    · (intro wq hSq; (try dsimp only at hSq); go_simp; try with_reducible rfl)
    try simp only [Act.put, List.setIfInBounds_toArray, List.set_cons_zero, List.set_cons_succ]
    refine wpAnyD_takeW 25 (v := ?_) (by kernel_rfl) rfl (by kernel_rfl) (by kernel_rfl) (fun _ _ _ h => h) (Or.inl ⟨by rfl, ?_⟩) ?_
    rotate_left
    · (intro wq hSq; (try dsimp only at hSq); go_simp; try with_reducible rfl)
    try simp only [Act.put, List.setIfInBounds_toArray, List.set_cons_zero, List.set_cons_succ]
    refine wpAnyD_takeW 26 (v := ?_) (by kernel_rfl) rfl (by kernel_rfl) (by kernel_rfl) (fun _ _ _ h => h) (Or.inl ⟨by rfl, ?_⟩) ?_
    rotate_left
    · (intro wq hSq; (try dsimp only at hSq); go_simp; try with_reducible rfl)
    try simp only [Act.put, List.setIfInBounds_toArray, List.set_cons_zero, List.set_cons_succ]
    refine wpAnyD_takeW 27 (v := ?_) (by kernel_rfl) rfl (by kernel_rfl) (by kernel_rfl) (fun _ _ _ h => h) (Or.inl ⟨by rfl, ?_⟩) ?_
    rotate_left
    · (intro wq hSq; (try dsimp only at hSq); go_simp; try with_reducible rfl)
    try simp only [Act.put, List.setIfInBounds_toArray, List.set_cons_zero, List.set_cons_succ]
    refine wpAnyD_takeW 28 (v := ?_) (by kernel_rfl) rfl (by kernel_rfl) (by kernel_rfl) (fun _ _ _ h => h) (Or.inl ⟨by rfl, ?_⟩) ?_
    rotate_left
    · (intro wq hSq; (try dsimp only at hSq); go_simp; try with_reducible rfl)
    try simp only [Act.put, List.setIfInBounds_toArray, List.set_cons_zero, List.set_cons_succ]
    refine wpAnyD_takeW 29 (v := ?_) (by kernel_rfl) rfl (by kernel_rfl) (by kernel_rfl) (fun _ _ _ h => h) (Or.inl ⟨by rfl, ?_⟩) ?_
    rotate_left
    · (intro wq hSq; (try dsimp only at hSq); go_simp; try with_reducible rfl)
    try simp only [Act.put, List.setIfInBounds_toArray, List.set_cons_zero, List.set_cons_succ]
    refine wpAnyD_takeW 30 (v := ?_) (by kernel_rfl) rfl (by kernel_rfl) (by kernel_rfl) (fun _ _ _ h => h) (Or.inl ⟨by rfl, ?_⟩) ?_
    rotate_left
    · (intro wq hSq; (try dsimp only at hSq); go_simp; try with_reducible rfl)
    try simp only [Act.put, List.setIfInBounds_toArray, List.set_cons_zero, List.set_cons_succ]
    refine wpAnyD_takeW 31 (v := ?_) (by kernel_rfl) rfl (by kernel_rfl) (by kernel_rfl) (fun _ _ _ h => h) (Or.inl ⟨by rfl, ?_⟩) ?_
    rotate_left
    · (intro wq hSq; (try dsimp only at hSq); go_simp; try with_reducible rfl)
    try simp only [Act.put, List.setIfInBounds_toArray, List.set_cons_zero, List.set_cons_succ]
    refine wpAnyD_keep 32 (by kernel_rfl) rfl (fun K hK => ?_)
    go_simp
    go_at_call 11
    (with_reducible refine (HSH.out _).mono ?_)
    rintro e w10 ⟨rfl, hbu⟩
    have HB10 := Lib.hid (below_via HB9.out hbu)
    clear hbu
    obtain ⟨c0, c1⟩ := hcx.out w10 (by rw [← HZ0.out]; exact HB10.out)
    refine hK.out _ _ ⟨c0, c1⟩ (fun hHeld6 => ?_)
    clear hK K hHeld5 c0 c1
    try simp only [Act.put, List.setIfInBounds_toArray, List.set_cons_zero, List.set_cons_succ]
    refine wpAnyD_takeW 33 (v := ?_) (by kernel_rfl) rfl (by kernel_rfl) (by kernel_rfl) (fun _ _ _ h => h) (Or.inl ⟨by rfl, ?_⟩) ?_
    rotate_left
    · (intro wq hSq; (try dsimp only at hSq); go_simp; try with_reducible rfl)
    try simp only [Act.put, List.setIfInBounds_toArray, List.set_cons_zero, List.set_cons_succ]
    refine wpAnyD_takeW 34 (v := ?_) (by kernel_rfl) rfl (by kernel_rfl) (by kernel_rfl) (fun _ _ _ h => h) (Or.inl ⟨by rfl, ?_⟩) ?_
    rotate_left
    · (intro wq hSq; (try dsimp only at hSq); go_simp; try with_reducible rfl)
    try simp only [Act.put, List.setIfInBounds_toArray, List.set_cons_zero, List.set_cons_succ]
    refine wpAnyD_end (by kernel_rfl) ?_
    have HBW := Lib.hid (HB0.out.trans (HB10.out.mono HB0.out.size))
    go_wp2
    go_ret
    exact ⟨rfl, HBW.out⟩
end Go.Proofs.Ytdfklcmiagmgaaa
