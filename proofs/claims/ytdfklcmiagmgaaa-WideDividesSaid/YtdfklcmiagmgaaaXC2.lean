/- The reference: two numbers with signs compared; the number of binary digits of a form, both. -/
import Derived.Test.YtdfklcmiagmgaaaXC1
import Derived.Test.YtdfklcmiagmgaaaWQ3
import Derived.Test.YtdfklcmiagmgaaaXG2
namespace Go
section
variable {P : Program} {ops : Array Oper} {Q : Exit → Act → World → Prop} {S : World → Prop} {late : Nat → Bool}
/-- Two operations may come up. -/
theorem wpAnyD_two (i j : Nat) {oi oj : Oper} {fuel : Nat} {listed : Array Bool} {a : Act} {w : World} (hr : Region.ready .any ops listed = [i, j]) (hoi : ops.toList[i]? = some oi) (hoj : ops.toList[j]? = some oj)
    (h1 : ∀ K' : Act → World → Prop, Shut (∀ a w, S w → (S w → wpAnyD P ops Q S late fuel (listed.setIfInBounds i true) a w) → K' a w) → if Region.wanted oi (yielded ops a.tmps) = true then Oper.wp P oi a w K' Q else K' (a.put oi.dst undef) w)
    (h2 : ∀ K' : Act → World → Prop, Shut (∀ a w, S w → (S w → wpAnyD P ops Q S late fuel (listed.setIfInBounds j true) a w) → K' a w) → if Region.wanted oj (yielded ops a.tmps) = true then Oper.wp P oj a w K' Q else K' (a.put oj.dst undef) w) :
    wpAnyD P ops Q S late (fuel + 1) listed a w := by
  refine ⟨fun h0 => (by rw [hr] at h0; cases h0), fun k hk => ?_⟩
  rw [hr] at hk
  rcases List.mem_cons.1 hk with h | h
  · subst h
    exact wpOp_step (by simpa using hoi) (fun K' hK => h1 K' (fun a w hS hW => hK a w ⟨fun _ _ => hS, hW hS⟩))
  · obtain rfl : k = j := by simpa using h
    exact wpOp_step (by simpa using hoj) (fun K' hK => h2 K' (fun a w hS hW => hK a w ⟨fun _ _ => hS, hW hS⟩))
end
end Go
namespace Go.Proofs.Ytdfklcmiagmgaaa
set_option linter.all false
open Go.RowKit Go.Shelf Go.WideNum
theorem cmp_sign (an : Bool) (A : Nat) (bn : Bool) (C : Nat) (S : Bool) (N : Nat) (hz : zOf S N = zOf an A - zOf bn C) (hS : S = true → N ≠ 0) :
    cmpZ (zOf an A) (zOf bn C) = if S then -1 else if N = 0 then 0 else 1 := by
  unfold cmpZ
  generalize zOf an A = x at *
  generalize zOf bn C = y at *
  unfold zOf at hz
  cases S with
  | true =>
    have := hS rfl
    simp at hz ⊢
    omega
  | false =>
    simp at hz ⊢
    by_cases h : N = 0
    · rw [if_neg (by omega), if_neg (by omega), if_pos h]
    · rw [if_neg (by omega), if_pos (by omega), if_neg h]
set_option maxRecDepth 100000 in
set_option maxHeartbeats 8000000 in
theorem hcompare_any (an : Bool) (A : Nat) (va : Value) (bn : Bool) (C : Nat) (vb : Value) (w : World) (hA : World.numH w va A) (hC : World.numH w vb C) (hla : (hw A).length ≤ 2000) (hlc : (hw C).length ≤ 2000) :
    Calls Try.prog 73 #[.agg #[.bool an, va], .agg #[.bool bn, vb]] w fun e w' => e = .returned (.int .i64 (cmpZ (zOf an A) (zOf bn C))) ∧ Below w.heap.size w w' := by
  have HA : Hid (World.numH w va A) := hA
  have HC : Hid (World.numH w vb C) := hC
  obtain ⟨aa, p, ca, -, rfl, -, -, -⟩ := numH_words hA
  obtain ⟨ab, q, cb, -, rfl, -, -, -⟩ := numH_words hC
  clear hA hC
  obtain ⟨W0, hW0⟩ : ∃ W0, W0 = (w.alloc (.cells #[.bool an, .slice aa p ca] 63)).alloc (.cells #[.bool bn, .slice ab q cb] 63) := ⟨_, rfl⟩
  have g0 : W0.heap[w.heap.size]? = some (.cells #[.bool an, .slice aa p ca] 63) := by rw [hW0, Below.heap_alloc _ _ _ (by simp)]; exact heap_alloc_new w _
  have g1 : W0.heap[w.heap.size + 1]? = some (.cells #[.bool bn, .slice ab q cb] 63) := by rw [hW0]; exact alloc_last _ _ (by simp)
  have hb0 : Below w.heap.size w W0 := by rw [hW0]; exact (((Below.refl _ w).alloc (Nat.le_refl _) _).alloc (by simp) _)
  have HB0 := Lib.hid hb0
  obtain ⟨c00, c01, f00, f01⟩ := num_cells g0
  obtain ⟨c10, c11, f10, f11⟩ := num_cells g1
  have HW0 := Lib.hid hW0
  have HNA := Lib.hid (numH_below HA.out hb0)
  have HNC := Lib.hid (numH_below HC.out hb0)
  have hcx : Hid (∀ W, Below W0.heap.size W0 W → W.cell? ⟨w.heap.size, 0, none⟩ = some (.bool an) ∧ W.cell? ⟨w.heap.size, 1, none⟩ = some (.slice aa p ca) ∧ W.cell? ⟨w.heap.size + 1, 0, none⟩ = some (.bool bn) ∧ W.cell? ⟨w.heap.size + 1, 1, none⟩ = some (.slice ab q cb)) := fun W hb => by
    obtain ⟨k0, k1, -, -⟩ := num_cells ((hb.block _ (lt_of_heap g0)).trans g0)
    obtain ⟨k2, k3, -, -⟩ := num_cells ((hb.block _ (lt_of_heap g1)).trans g1)
    exact ⟨k0, k1, k2, k3⟩
  have hz0 := lt_of_heap g0
  have hz1 := lt_of_heap g1
  obtain ⟨nc, hnc⟩ : ∃ s, s = (!bn && decide (C ≠ 0)) := ⟨_, rfl⟩
  have HNEG : Hid (∀ W v, World.numH W v C → Calls Try.prog 67 #[.agg #[.bool bn, v]] W (SRet W nc C)) := fun W v h => by rw [hnc]; exact negative_any bn C _ (hw_vlt C) (by omega) v W (numH_raw h)
  obtain ⟨S, hS⟩ : ∃ S, S = (sumS A an C nc && decide (sumN A an C nc ≠ 0)) := ⟨_, rfl⟩
  obtain ⟨M, hM⟩ : ∃ M, M = sumN A an C nc := ⟨_, rfl⟩
  have HADD : Hid (∀ W va vb, World.numH W va A → World.numH W vb C → Calls Try.prog 54 #[.agg #[.bool an, va], .agg #[.bool nc, vb]] W (SRet W S M)) := fun W va vb h1 h2 => by rw [hS, hM]; exact hadd_any an A va nc C vb W h1 h2 (by omega) (by omega)
  have hz : zOf S M = zOf an A - zOf bn C := by
    rw [hS, hM, zOf_and]
    refine (sum_z A an C nc).trans ?_
    rw [hnc, zOf_and]
    unfold zOf
    cases bn <;> simp <;> omega
  have hc := cmp_sign an A bn C S M hz (fun h => by
    rw [hS, ← hM] at h
    intro h0
    rw [h0] at h
    simp at h)
  obtain ⟨R, hR⟩ : ∃ R, R = cmpZ (zOf an A) (zOf bn C) := ⟨_, rfl⟩
  rw [← hR] at hc ⊢
  have HRR := Lib.hid hc
  obtain ⟨HPOST, hpost⟩ : ∃ X : Ending → World → Prop, X = fun e w' => e = .returned (.int .i64 R) ∧ Below w.heap.size w w' := ⟨_, rfl⟩
  rw [← hpost]
  have HP := Lib.hid hpost
  clear hb0 g0 g1 hW0 hpost hnc hS hM hz hc hR
  go_enter Try.func73, Try.ntmps73
  go_upto_region 1 with (fail)
  rw [← HW0.out]
  go_wp2_with fail
  refine wp_region_late (fun w' => w'.cell? ⟨w.heap.size, 0, none⟩ = some (.bool an) ∧ w'.cell? ⟨w.heap.size, 1, none⟩ = some (.slice aa p ca) ∧ w'.cell? ⟨w.heap.size + 1, 0, none⟩ = some (.bool bn) ∧ w'.cell? ⟨w.heap.size + 1, 1, none⟩ = some (.slice ab q cb)) (fun j => decide (j = 5)) (by kernel_rfl) ⟨c00, c01, c10, c11⟩ (fun hHeld => ?_)
  refine wpAnyD_take 0 (v := ?_) (by kernel_rfl) (by kernel_rfl) rfl (by kernel_rfl) (by kernel_rfl) (fun _ _ _ h => h) (Or.inl ⟨by rfl, ?_⟩) (by assumption) ?_
  rotate_left
  · (intro wq hSq; (try dsimp only at hSq); go_simp; try with_reducible rfl)
  try simp only [Act.put, List.setIfInBounds_toArray, List.set_cons_zero, List.set_cons_succ]
  refine wpAnyD_take 1 (v := ?_) (by kernel_rfl) (by kernel_rfl) rfl (by kernel_rfl) (by kernel_rfl) (fun _ _ _ h => h) (Or.inl ⟨by rfl, ?_⟩) (by assumption) ?_
  rotate_left
  · (intro wq hSq; (try dsimp only at hSq); go_simp; try with_reducible rfl)
  try simp only [Act.put, List.setIfInBounds_toArray, List.set_cons_zero, List.set_cons_succ]
  have hdd := ((Below.refl W0.heap.size W0).drew)
  have hna := HNA.out.drew
  have hnc := HNC.out.drew
  have HHA : Hid (World.numH W0.drew (.slice aa p ca) A) := hna
  have HHC : Hid (World.numH W0.drew (.slice ab q cb) C) := hnc
  generalize W0.drew = X0 at hdd HHA HHC hHeld ⊢
  have HDD := Lib.hid hdd
  clear hna hnc hdd c00 c01 c10 c11 f00 f01 f10 f11
  refine wpAnyD_two 2 4 (by kernel_rfl) rfl rfl (fun K hK => ?_) (fun K hK => ?_)
  · go_simp
    go_at_call 67
    (with_reducible refine (HNEG.out _ _ HHC.out).mono ?_)
    rintro e u1 ⟨vu1, rfl, hnu1, hbu⟩
    obtain ⟨au1, Lu1, cu1, eu1⟩ : ∃ a L c, vu1 = .slice a L c := by obtain ⟨x, y, h⟩ := reads_len hnu1; exact ⟨x, _, y, h⟩
    subst eu1
    have hbx := below_via HDD.out hbu
    have HD1 := Lib.hid hbx
    have HF1A := Lib.hid (numH_below HHA.out hbu)
    have HF1B := Lib.hid (numH_below HHC.out hbu)
    have HF1u1 := Lib.hid hnu1
    refine hK.out _ _ (hcx.out _ hbx) (fun hHeld1 => ?_)
    clear hbu hbx hnu1 hK K hHeld
    try simp only [Act.put, List.setIfInBounds_toArray, List.set_cons_zero, List.set_cons_succ]
    refine wpAnyD_two 3 4 (by kernel_rfl) rfl rfl (fun K hK => ?_) (fun K hK => ?_)
    · go_simp
      go_at_call 54
      (with_reducible refine (HADD.out _ _ _ HF1A.out HF1u1.out).mono ?_)
      rintro e u2 ⟨vu2, rfl, hnu2, hbu⟩
      obtain ⟨au2, Lu2, cu2, eu2⟩ : ∃ a L c, vu2 = .slice a L c := by obtain ⟨x, y, h⟩ := reads_len hnu2; exact ⟨x, _, y, h⟩
      subst eu2
      have hbx := below_via HD1.out hbu
      have HD2 := Lib.hid hbx
      have HF2A := Lib.hid (numH_below HF1A.out hbu)
      have HF2B := Lib.hid (numH_below HF1B.out hbu)
      have HF2u1 := Lib.hid (numH_below HF1u1.out hbu)
      have HF2u2 := Lib.hid hnu2
      refine hK.out _ _ (hcx.out _ hbx) (fun hHeld2 => ?_)
      clear hbu hbx hnu2 hK K hHeld1
      try simp only [Act.put, List.setIfInBounds_toArray, List.set_cons_zero, List.set_cons_succ]
      refine wpAnyD_keep 4 (by kernel_rfl) rfl (fun K hK => ?_)
      go_simp
      have hbx : Below W0.heap.size W0 (u2.alloc (.cells #[.bool false, .slice none 0 0] 63)) := HD2.out.alloc HD2.out.size _
      have hpx : (u2.alloc (.cells #[.bool false, .slice none 0 0] 63)).heap[u2.heap.size]? = some (.cells #[.bool false, .slice none 0 0] 63) := heap_alloc_new u2 _
      have hbd : Below u2.heap.size u2 (u2.alloc (.cells #[.bool false, .slice none 0 0] 63)) := (Below.refl _ _).alloc (Nat.le_refl _) _
      have HD3 := Lib.hid hbx
      have HP3 := Lib.hid hpx
      have HF3A := Lib.hid (numH_below HF2A.out hbd)
      have HF3B := Lib.hid (numH_below HF2B.out hbd)
      have HF3u1 := Lib.hid (numH_below HF2u1.out hbd)
      have HF3u2 := Lib.hid (numH_below HF2u2.out hbd)
      refine hK.out _ _ (hcx.out _ hbx) (fun hHeld3 => ?_)
      clear hbd hbx hpx hK K hHeld2
      try simp only [Act.put, List.setIfInBounds_toArray, List.set_cons_zero, List.set_cons_succ]
      generalize u2.alloc (.cells #[.bool false, .slice none 0 0] 63) = x3 at HD3 HP3 HF3A HF3B HF3u1 HF3u2 ⊢
      have hPz : W0.heap.size ≤ u2.heap.size := by first | exact Nat.le_refl _ | exact HD2.out.size
      obtain ⟨d0, d1, fz0, fz1⟩ := num_cells HP3.out
      refine wpAnyD_step 5 (by kernel_rfl) rfl rfl (fun K hK => ?_)
      go_simp
      refine hK.out _ _ ?_
      clear hK K hHeld3 d0 d1 fz0 fz1
      try simp only [Act.put, List.setIfInBounds_toArray, List.set_cons_zero, List.set_cons_succ]
      refine wpAnyD_end (by kernel_rfl) ?_
      have m2 := num_set HP3.out (.bool S) (.slice au2 Lu2 cu2)
      have hb9 : Below W0.heap.size W0 ((x3.setCell ⟨u2.heap.size, 0, none⟩ (.bool S)).setCell ⟨u2.heap.size, 1, none⟩ (.slice au2 Lu2 cu2)) := (HD3.out.setCell hPz _).setCell hPz _
      have hL : Lu2 = (hw M).length := by
        obtain ⟨x, y, e⟩ := reads_len HF3u2.out
        injection e with _ e2 _
        rw [e2, List.length_map]
      obtain ⟨d20, d21, -, -⟩ := num_cells m2
      clear m2
      generalize (x3.setCell ⟨u2.heap.size, 0, none⟩ (.bool S)).setCell ⟨u2.heap.size, 1, none⟩ (.slice au2 Lu2 cu2) = W9 at d20 d21 hb9 ⊢
      have HB9 := Lib.hid (HB0.out.trans (hb9.mono HB0.out.size))
      have hM : (M = 0 ∧ Lu2 = 0) ∨ (M ≠ 0 ∧ 0 < Lu2) := by
        have h3 := hw_pos (n := M)
        by_cases h : M = 0
        · left; exact ⟨h, by rw [hL, h]; rfl⟩
        · right; exact ⟨h, by rw [hL]; exact h3.2 h⟩
      have HRR2 := HRR.out
      clear hb9 hL
      cases S with
      | true =>
        have hRR : R = -1 := by rw [HRR2]; rfl
        subst hRR
        clear hM HRR2
        go_wp2
        rw [HP.out]
        exact ⟨rfl, HB9.out⟩
      | false =>
        rcases hM with ⟨hM0, hL0⟩ | ⟨hM0, hL0⟩
        · have hRR : R = 0 := by rw [HRR2, hM0]; rfl
          subst hL0 hRR
          clear HRR2 hM0
          have t0 : ¬ (0 : Int) < ((0 : Nat) : Int) := by omega
          go_wp2
          rw [HP.out]
          exact ⟨rfl, HB9.out⟩
        · have hRR : R = 1 := by rw [HRR2, if_neg (by decide), if_neg hM0]
          subst hRR
          clear HRR2 hM0
          have t0 : (0 : Int) < (Lu2 : Int) := by omega
          go_wp2
          rw [HP.out]
          exact ⟨rfl, HB9.out⟩
    · go_simp
      have hbx : Below W0.heap.size W0 (u1.alloc (.cells #[.bool false, .slice none 0 0] 63)) := HD1.out.alloc HD1.out.size _
      have hpx : (u1.alloc (.cells #[.bool false, .slice none 0 0] 63)).heap[u1.heap.size]? = some (.cells #[.bool false, .slice none 0 0] 63) := heap_alloc_new u1 _
      have hbd : Below u1.heap.size u1 (u1.alloc (.cells #[.bool false, .slice none 0 0] 63)) := (Below.refl _ _).alloc (Nat.le_refl _) _
      have HD2 := Lib.hid hbx
      have HP2 := Lib.hid hpx
      have HF2A := Lib.hid (numH_below HF1A.out hbd)
      have HF2B := Lib.hid (numH_below HF1B.out hbd)
      have HF2u1 := Lib.hid (numH_below HF1u1.out hbd)
      refine hK.out _ _ (hcx.out _ hbx) (fun hHeld2 => ?_)
      clear hbd hbx hpx hK K hHeld1
      try simp only [Act.put, List.setIfInBounds_toArray, List.set_cons_zero, List.set_cons_succ]
      generalize u1.alloc (.cells #[.bool false, .slice none 0 0] 63) = x2 at HD2 HP2 HF2A HF2B HF2u1 ⊢
      refine wpAnyD_keep 3 (by kernel_rfl) rfl (fun K hK => ?_)
      go_simp
      go_at_call 54
      (with_reducible refine (HADD.out _ _ _ HF2A.out HF2u1.out).mono ?_)
      rintro e u3 ⟨vu3, rfl, hnu3, hbu⟩
      obtain ⟨au3, Lu3, cu3, eu3⟩ : ∃ a L c, vu3 = .slice a L c := by obtain ⟨x, y, h⟩ := reads_len hnu3; exact ⟨x, _, y, h⟩
      subst eu3
      have hbx := below_via HD2.out hbu
      have HD3 := Lib.hid hbx
      have HF3A := Lib.hid (numH_below HF2A.out hbu)
      have HF3B := Lib.hid (numH_below HF2B.out hbu)
      have HF3u1 := Lib.hid (numH_below HF2u1.out hbu)
      have HF3u3 := Lib.hid hnu3
      have HP3 := Lib.hid ((hbu.block _ (lt_of_heap HP2.out)).trans HP2.out)
      refine hK.out _ _ (hcx.out _ hbx) (fun hHeld3 => ?_)
      clear hbu hbx hnu3 hK K hHeld2
      try simp only [Act.put, List.setIfInBounds_toArray, List.set_cons_zero, List.set_cons_succ]
      have hPz : W0.heap.size ≤ u1.heap.size := by first | exact Nat.le_refl _ | exact HD1.out.size
      obtain ⟨d0, d1, fz0, fz1⟩ := num_cells HP3.out
      refine wpAnyD_step 5 (by kernel_rfl) rfl rfl (fun K hK => ?_)
      go_simp
      refine hK.out _ _ ?_
      clear hK K hHeld3 d0 d1 fz0 fz1
      try simp only [Act.put, List.setIfInBounds_toArray, List.set_cons_zero, List.set_cons_succ]
      refine wpAnyD_end (by kernel_rfl) ?_
      have m2 := num_set HP3.out (.bool S) (.slice au3 Lu3 cu3)
      have hb9 : Below W0.heap.size W0 ((u3.setCell ⟨u1.heap.size, 0, none⟩ (.bool S)).setCell ⟨u1.heap.size, 1, none⟩ (.slice au3 Lu3 cu3)) := (HD3.out.setCell hPz _).setCell hPz _
      have hL : Lu3 = (hw M).length := by
        obtain ⟨x, y, e⟩ := reads_len HF3u3.out
        injection e with _ e2 _
        rw [e2, List.length_map]
      obtain ⟨d20, d21, -, -⟩ := num_cells m2
      clear m2
      generalize (u3.setCell ⟨u1.heap.size, 0, none⟩ (.bool S)).setCell ⟨u1.heap.size, 1, none⟩ (.slice au3 Lu3 cu3) = W9 at d20 d21 hb9 ⊢
      have HB9 := Lib.hid (HB0.out.trans (hb9.mono HB0.out.size))
      have hM : (M = 0 ∧ Lu3 = 0) ∨ (M ≠ 0 ∧ 0 < Lu3) := by
        have h3 := hw_pos (n := M)
        by_cases h : M = 0
        · left; exact ⟨h, by rw [hL, h]; rfl⟩
        · right; exact ⟨h, by rw [hL]; exact h3.2 h⟩
      have HRR2 := HRR.out
      clear hb9 hL
      cases S with
      | true =>
        have hRR : R = -1 := by rw [HRR2]; rfl
        subst hRR
        clear hM HRR2
        go_wp2
        rw [HP.out]
        exact ⟨rfl, HB9.out⟩
      | false =>
        rcases hM with ⟨hM0, hL0⟩ | ⟨hM0, hL0⟩
        · have hRR : R = 0 := by rw [HRR2, hM0]; rfl
          subst hL0 hRR
          clear HRR2 hM0
          have t0 : ¬ (0 : Int) < ((0 : Nat) : Int) := by omega
          go_wp2
          rw [HP.out]
          exact ⟨rfl, HB9.out⟩
        · have hRR : R = 1 := by rw [HRR2, if_neg (by decide), if_neg hM0]
          subst hRR
          clear HRR2 hM0
          have t0 : (0 : Int) < (Lu3 : Int) := by omega
          go_wp2
          rw [HP.out]
          exact ⟨rfl, HB9.out⟩
  · go_simp
    have hbx : Below W0.heap.size W0 (X0.alloc (.cells #[.bool false, .slice none 0 0] 63)) := HDD.out.alloc HDD.out.size _
    have hpx : (X0.alloc (.cells #[.bool false, .slice none 0 0] 63)).heap[X0.heap.size]? = some (.cells #[.bool false, .slice none 0 0] 63) := heap_alloc_new X0 _
    have hbd : Below X0.heap.size X0 (X0.alloc (.cells #[.bool false, .slice none 0 0] 63)) := (Below.refl _ _).alloc (Nat.le_refl _) _
    have HD1 := Lib.hid hbx
    have HP1 := Lib.hid hpx
    have HF1A := Lib.hid (numH_below HHA.out hbd)
    have HF1B := Lib.hid (numH_below HHC.out hbd)
    refine hK.out _ _ (hcx.out _ hbx) (fun hHeld1 => ?_)
    clear hbd hbx hpx hK K hHeld
    try simp only [Act.put, List.setIfInBounds_toArray, List.set_cons_zero, List.set_cons_succ]
    generalize X0.alloc (.cells #[.bool false, .slice none 0 0] 63) = x1 at HD1 HP1 HF1A HF1B ⊢
    refine wpAnyD_keep 2 (by kernel_rfl) rfl (fun K hK => ?_)
    go_simp
    go_at_call 67
    (with_reducible refine (HNEG.out _ _ HF1B.out).mono ?_)
    rintro e u4 ⟨vu4, rfl, hnu4, hbu⟩
    obtain ⟨au4, Lu4, cu4, eu4⟩ : ∃ a L c, vu4 = .slice a L c := by obtain ⟨x, y, h⟩ := reads_len hnu4; exact ⟨x, _, y, h⟩
    subst eu4
    have hbx := below_via HD1.out hbu
    have HD2 := Lib.hid hbx
    have HF2A := Lib.hid (numH_below HF1A.out hbu)
    have HF2B := Lib.hid (numH_below HF1B.out hbu)
    have HF2u4 := Lib.hid hnu4
    have HP2 := Lib.hid ((hbu.block _ (lt_of_heap HP1.out)).trans HP1.out)
    refine hK.out _ _ (hcx.out _ hbx) (fun hHeld2 => ?_)
    clear hbu hbx hnu4 hK K hHeld1
    try simp only [Act.put, List.setIfInBounds_toArray, List.set_cons_zero, List.set_cons_succ]
    refine wpAnyD_keep 3 (by kernel_rfl) rfl (fun K hK => ?_)
    go_simp
    go_at_call 54
    (with_reducible refine (HADD.out _ _ _ HF2A.out HF2u4.out).mono ?_)
    rintro e u5 ⟨vu5, rfl, hnu5, hbu⟩
    obtain ⟨au5, Lu5, cu5, eu5⟩ : ∃ a L c, vu5 = .slice a L c := by obtain ⟨x, y, h⟩ := reads_len hnu5; exact ⟨x, _, y, h⟩
    subst eu5
    have hbx := below_via HD2.out hbu
    have HD3 := Lib.hid hbx
    have HF3A := Lib.hid (numH_below HF2A.out hbu)
    have HF3B := Lib.hid (numH_below HF2B.out hbu)
    have HF3u4 := Lib.hid (numH_below HF2u4.out hbu)
    have HF3u5 := Lib.hid hnu5
    have HP3 := Lib.hid ((hbu.block _ (lt_of_heap HP2.out)).trans HP2.out)
    refine hK.out _ _ (hcx.out _ hbx) (fun hHeld3 => ?_)
    clear hbu hbx hnu5 hK K hHeld2
    try simp only [Act.put, List.setIfInBounds_toArray, List.set_cons_zero, List.set_cons_succ]
    have hPz : W0.heap.size ≤ X0.heap.size := by first | exact Nat.le_refl _ | exact HDD.out.size
    obtain ⟨d0, d1, fz0, fz1⟩ := num_cells HP3.out
    refine wpAnyD_step 5 (by kernel_rfl) rfl rfl (fun K hK => ?_)
    go_simp
    refine hK.out _ _ ?_
    clear hK K hHeld3 d0 d1 fz0 fz1
    try simp only [Act.put, List.setIfInBounds_toArray, List.set_cons_zero, List.set_cons_succ]
    refine wpAnyD_end (by kernel_rfl) ?_
    have m2 := num_set HP3.out (.bool S) (.slice au5 Lu5 cu5)
    have hb9 : Below W0.heap.size W0 ((u5.setCell ⟨X0.heap.size, 0, none⟩ (.bool S)).setCell ⟨X0.heap.size, 1, none⟩ (.slice au5 Lu5 cu5)) := (HD3.out.setCell hPz _).setCell hPz _
    have hL : Lu5 = (hw M).length := by
      obtain ⟨x, y, e⟩ := reads_len HF3u5.out
      injection e with _ e2 _
      rw [e2, List.length_map]
    obtain ⟨d20, d21, -, -⟩ := num_cells m2
    clear m2
    generalize (u5.setCell ⟨X0.heap.size, 0, none⟩ (.bool S)).setCell ⟨X0.heap.size, 1, none⟩ (.slice au5 Lu5 cu5) = W9 at d20 d21 hb9 ⊢
    have HB9 := Lib.hid (HB0.out.trans (hb9.mono HB0.out.size))
    have hM : (M = 0 ∧ Lu5 = 0) ∨ (M ≠ 0 ∧ 0 < Lu5) := by
      have h3 := hw_pos (n := M)
      by_cases h : M = 0
      · left; exact ⟨h, by rw [hL, h]; rfl⟩
      · right; exact ⟨h, by rw [hL]; exact h3.2 h⟩
    have HRR2 := HRR.out
    clear hb9 hL
    cases S with
    | true =>
      have hRR : R = -1 := by rw [HRR2]; rfl
      subst hRR
      clear hM HRR2
      go_wp2
      rw [HP.out]
      exact ⟨rfl, HB9.out⟩
    | false =>
      rcases hM with ⟨hM0, hL0⟩ | ⟨hM0, hL0⟩
      · have hRR : R = 0 := by rw [HRR2, hM0]; rfl
        subst hL0 hRR
        clear HRR2 hM0
        have t0 : ¬ (0 : Int) < ((0 : Nat) : Int) := by omega
        go_wp2
        rw [HP.out]
        exact ⟨rfl, HB9.out⟩
      · have hRR : R = 1 := by rw [HRR2, if_neg (by decide), if_neg hM0]
        subst hRR
        clear HRR2 hM0
        have t0 : (0 : Int) < (Lu5 : Int) := by omega
        go_wp2
        rw [HP.out]
        exact ⟨rfl, HB9.out⟩
end Go.Proofs.Ytdfklcmiagmgaaa
