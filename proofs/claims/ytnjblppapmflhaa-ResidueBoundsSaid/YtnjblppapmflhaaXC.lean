/- Wide integers: helpers and walks, in one text (XC1 XC2 XC3 XC4). -/
import Derived.Test.YtnjblppapmflhaaXRb
import Derived.Test.YtnjblppapmflhaaWQ3
import Derived.Test.YtnjblppapmflhaaXG
/- How many binary digits a form has. -/
namespace Go.Proofs.Ytnjblppapmflhaa
set_option linter.all false
open Go.RowKit Go.Shelf Go.WideNum
def bitsN (n : Nat) : Nat := (words 2 n).length
theorem bitsN_le {n k : Nat} (h : n < 2 ^ k) : bitsN n ≤ k := words_length (by omega) n k h
theorem bitsN_lt {n k : Nat} (h : 2 ^ k ≤ n) : k < bitsN n := words_lenlt (by omega) n k h
theorem bitsN_vlt (n : Nat) : n < 2 ^ bitsN n := words_vlt (by omega) n
theorem bits_top {n k : Nat} (h : bitsN n = k + 1) : dig 2 n k ≠ 0 := by
  have h1 := words_trimmed (B := 2) (by omega) n n (Nat.le_refl _)
  have h2 : (wordsOf 2 n n).getLast? = some (dig 2 n k) := by
    have h3 : (words 2 n).length = k + 1 := h
    have h4 : (words 2 n).getLast? = some (dig 2 n k) := by
      rw [List.getLast?_eq_getElem?, h3, Nat.add_sub_cancel]
      exact words_getE (by omega) n k (by omega)
    exact h4
  exact h1 _ h2
theorem pow16 (q : Nat) : 65536 ^ q = 2 ^ (16 * q) := by rw [show (65536 : Nat) = 2 ^ 16 by rfl, ← Nat.pow_mul]
theorem dig_bit (n i q r : Nat) (hi : i = 16 * q + r) (hr : r < 16) : dig 65536 n q / 2 ^ r % 2 = dig 2 n i := by
  subst hi
  unfold dig
  rw [pow16, Nat.pow_add, ← Nat.div_div_eq_div_mul]
  generalize n / 2 ^ (16 * q) = m
  have h1 : 2 ^ r * (2 * 2 ^ (15 - r)) = 65536 := by
    rw [show (65536 : Nat) = 2 ^ 16 by rfl, ← Nat.pow_succ', ← Nat.pow_add]
    congr 1; omega
  rw [← h1, Nat.mod_mul_right_div_self, Nat.mod_mul_right_mod]
theorem and_one (y : Nat) (hy : y < 4294967296) : bits .and .u32 (y : Int) 1 = ((y % 2 : Nat) : Int) := by
  show IntKind.u32.wrap ((BitVec.ofInt 32 _ &&& BitVec.ofInt 32 _).toNat : Int) = _
  rw [BitVec.ofInt_natCast, show (1 : Int) = ((1 : Nat) : Int) by rfl, BitVec.ofInt_natCast, BitVec.toNat_and, BitVec.toNat_ofNat, BitVec.toNat_ofNat, Nat.mod_eq_of_lt (by omega), Nat.mod_eq_of_lt (by omega), Nat.and_one_is_mod, IntKind.wrap_u32]
  omega
theorem bit_far (n i : Nat) (h : (hw n).length ≤ i / 16) : dig 2 n i = 0 := by
  refine dig_high (by omega) n i (Nat.lt_of_lt_of_le (hw_vlt n) ?_)
  rw [pow16]
  exact Nat.pow_le_pow_right (by omega) (by omega)
set_option maxRecDepth 100000 in
set_option maxHeartbeats 4000000 in
theorem hbit_any (A i : Nat) (hi : i ≤ 1000000) (va : Value) (w : World) (hA : World.numH w va A) (hla : (hw A).length ≤ 4000) (z : Int) (hz : z = (i : Int)) :
    Calls Try.prog 104 #[va, .int .i64 z] w fun e w' => e = .returned (.int .u32 (dig 2 A i : Int)) ∧ w = w' := by
  subst hz
  obtain ⟨aa, p, ca, hp, rfl, hca, hma, hsa⟩ := numH_words hA
  clear hA
  obtain ⟨R, hR⟩ : ∃ R, R = dig 2 A i := ⟨_, rfl⟩
  rw [← hR]
  obtain ⟨q, hq⟩ : ∃ q, q = i / 16 := ⟨_, rfl⟩
  obtain ⟨r, hr⟩ : ∃ q, q = i % 16 := ⟨_, rfl⟩
  have e1 : (i : Int) / 16 = (q : Int) := by omega
  have e2 : (i : Int) % 16 = (r : Int) := by omega
  by_cases hlt : q < p
  · have hlt' : ¬ (p : Int) ≤ (q : Int) := by omega
    have hlt2 : (q : Int) < (p : Int) := by omega
    have hq0 : (0 : Int) ≤ (q : Int) := by omega
    have hr0 : (0 : Int) ≤ (r : Int) := by omega
    have hr16 : (r : Int) < 16 := by omega
    obtain ⟨b, off, rfl, hbl, hx⟩ := hsa q hlt
    have hd := hw_dig A q
    have hb := dig_bit A i q r (by omega) (by omega)
    rw [← hR] at hb
    obtain ⟨x, ex⟩ : ∃ x, x = dig 65536 A q := ⟨_, rfl⟩
    rw [← ex] at hx hd hb
    obtain ⟨y, ey⟩ : ∃ y, y = x / 2 ^ r := ⟨_, rfl⟩
    rw [← ey] at hb
    have hyx : y ≤ x := by rw [ey]; exact Nat.div_le_self _ _
    have t1 : (x : Int) / 2 ^ r = (y : Int) := by rw [ey]; simp
    have t2 : bits .and .u32 (y : Int) 1 = (R : Int) := by rw [and_one y (by omega), hb]
    have HI : Hid (i ≤ 1000000) := hi
    clear hR hq hr hsa ex ey hb hp
    go_enter Try.func104, Try.ntmps104
    go_wp2
    go_ret
    exact ⟨rfl, rfl⟩
  · have hlt' : (p : Int) ≤ (q : Int) := by omega
    have hR0 : R = 0 := by rw [hR]; exact bit_far A i (by omega)
    subst hR0
    clear hR hq hr hsa hp
    go_enter Try.func104, Try.ntmps104
    go_wp2
    go_ret
    exact ⟨rfl, rfl⟩
set_option maxRecDepth 100000 in
set_option maxHeartbeats 4000000 in
theorem hbits_any (A : Nat) (va : Value) (w : World) (hA : World.numH w va A) (hla : (hw A).length ≤ 4000) :
    Calls Try.prog 102 #[va] w fun e w' => e = .returned (.int .i64 (bitsN A : Int)) ∧ w = w' := by
  have HA := Lib.hid hA
  obtain ⟨aa, p, ca, hp, rfl, hca, hma, hsa⟩ := numH_words hA
  obtain ⟨M, hM⟩ : ∃ M, M = bitsN A := ⟨_, rfl⟩
  rw [← hM]
  have HM := Lib.hid hM
  have hMp : M ≤ 16 * p := by
    rw [hM]
    refine bitsN_le ?_
    rw [← pow16, hp]
    exact hw_vlt A
  have hp4 : p ≤ 4000 := by omega
  have HLA := Lib.hid hla
  clear hA hsa hM hp hla
  go_enter Try.func102, Try.ntmps102
  go_wp2_with fail
  go_loop [3] (fun kv => ∃ k : Nat, M ≤ k ∧ k ≤ 16 * p ∧ kv = .int .i64 (k : Int)) (fun kv => (intOf kv).toNat)
  case atStart => exact ⟨16 * p, hMp, Nat.le_refl _, by go_num⟩
  case round =>
    obtain ⟨k, hk1, hk2, rfl⟩ := hrel
    by_cases hlt : M < k
    · obtain ⟨j, rfl⟩ : ∃ j, k = j + 1 := ⟨k - 1, by omega⟩
      have hz : dig 2 A j = 0 := dig_high (by omega) A j (Nat.lt_of_lt_of_le (bitsN_vlt A) (Nat.pow_le_pow_right (by omega) (by rw [← HM.out]; omega)))
      have hb := hbit_any A j (by omega) _ w HA.out HLA.out
      rw [hz] at hb
      have HBT := Lib.hid hb
      have t0 : (0 : Int) < ((j + 1 : Nat) : Int) := by omega
      clear hb hz
      go_wp2_with fail
      (with_reducible refine (HBT.out _ (by omega)).mono ?_)
      rintro e w1 ⟨rfl, rfl⟩
      go_wp2_with fail
      go_round
      case rel => exact ⟨j, by omega, by omega, by go_num⟩
      case measure => simp [intOf]
    · obtain rfl : k = M := by omega
      rcases Nat.eq_zero_or_pos k with h0 | h0
      · subst h0
        have t0 : ¬ (0 : Int) < ((0 : Nat) : Int) := by omega
        go_wp2
        go_ret
        exact ⟨rfl, rfl⟩
      · obtain ⟨j, rfl⟩ : ∃ j, k = j + 1 := ⟨k - 1, by omega⟩
        have hz := bits_top HM.out.symm
        have hd : dig 2 A j < 2 := dig_lt (by omega) A j
        have hb := hbit_any A j (by omega) _ w HA.out HLA.out
        obtain ⟨d, ed⟩ : ∃ d, d = dig 2 A j := ⟨_, rfl⟩
        rw [← ed] at hb hz
        have HBT := Lib.hid hb
        have t0 : (0 : Int) < ((j + 1 : Nat) : Int) := by omega
        have t1 : ((d : Int) == 0) = false := by rw [beq_eq_false_iff_ne]; omega
        clear hb hz ed hd
        go_wp2_with fail
        (with_reducible refine (HBT.out _ (by omega)).mono ?_)
        rintro e w1 ⟨rfl, rfl⟩
        go_wp2
        go_ret
        exact ⟨rfl, rfl⟩
end Go.Proofs.Ytnjblppapmflhaa

/- The reference: two numbers with signs compared; the number of binary digits of a form, both. -/
namespace Go
section
variable {P : Program} {ops : Array Oper} {Q : Exit → Act → World → Prop} {S : World → Prop} {late : Nat → Bool}
/-- Two operations may come up. -/
theorem wpAnyD_two (i j : Nat) {oi oj : Oper} {fuel : Nat} {listed : Array Bool} {a : Act} {w : World} (hr : Region.ready .any ops listed = [i, j]) (hoi : ops.toList[i]? = some oi) (hoj : ops.toList[j]? = some oj)
    (h1 : ∀ K' : Act → World → Prop, Shut (∀ a w, S w → (S w → wpAnyD P ops Q S late fuel (listed.setIfInBounds i true) a w) → K' a w) → if Region.wanted oi (yielded ops a.tmps) = true then Oper.wp P oi a w K' Q else K' (a.put oi.dst undef) w)
    (h2 : ∀ K' : Act → World → Prop, Shut (∀ a w, S w → (S w → wpAnyD P ops Q S late fuel (listed.setIfInBounds j true) a w) → K' a w) → if Region.wanted oj (yielded ops a.tmps) = true then Oper.wp P oj a w K' Q else K' (a.put oj.dst undef) w) :
    wpAnyD P ops Q S late (fuel + 1) listed a w := by
  refine ⟨fun h0 => (by rw [hr] at h0; cases h0), fun k hk => ?_⟩
  rw [hr] at hk
  rcases List.mem_cons.1 hk with h | h
  · subst h
    exact wpOp_step (by simpa using hoi) (fun K' hK => h1 K' (fun a w hS hW => hK a w ⟨fun _ _ => hS, hW hS⟩))
  · obtain rfl : k = j := by simpa using h
    exact wpOp_step (by simpa using hoj) (fun K' hK => h2 K' (fun a w hS hW => hK a w ⟨fun _ _ => hS, hW hS⟩))
end
end Go
namespace Go.Proofs.Ytnjblppapmflhaa
set_option linter.all false
open Go.RowKit Go.Shelf Go.WideNum
theorem cmp_sign (an : Bool) (A : Nat) (bn : Bool) (C : Nat) (S : Bool) (N : Nat) (hz : zOf S N = zOf an A - zOf bn C) (hS : S = true → N ≠ 0) :
    cmpZ (zOf an A) (zOf bn C) = if S then -1 else if N = 0 then 0 else 1 := by
  unfold cmpZ
  generalize zOf an A = x at *
  generalize zOf bn C = y at *
  unfold zOf at hz
  cases S with
  | true =>
    have := hS rfl
    simp at hz ⊢
    omega
  | false =>
    simp at hz ⊢
    by_cases h : N = 0
    · rw [if_neg (by omega), if_neg (by omega), if_pos h]
    · rw [if_neg (by omega), if_pos (by omega), if_neg h]
set_option maxRecDepth 100000 in
set_option maxHeartbeats 8000000 in
theorem hcompare_any (an : Bool) (A : Nat) (va : Value) (bn : Bool) (C : Nat) (vb : Value) (w : World) (hA : World.numH w va A) (hC : World.numH w vb C) (hla : (hw A).length ≤ 2000) (hlc : (hw C).length ≤ 2000) :
    Calls Try.prog 59 #[.agg #[.bool an, va], .agg #[.bool bn, vb]] w fun e w' => e = .returned (.int .i64 (cmpZ (zOf an A) (zOf bn C))) ∧ Below w.heap.size w w' := by
  have HA : Hid (World.numH w va A) := hA
  have HC : Hid (World.numH w vb C) := hC
  obtain ⟨aa, p, ca, -, rfl, -, -, -⟩ := numH_words hA
  obtain ⟨ab, q, cb, -, rfl, -, -, -⟩ := numH_words hC
  clear hA hC
  obtain ⟨W0, hW0⟩ : ∃ W0, W0 = (w.alloc (.cells #[.bool an, .slice aa p ca] 86)).alloc (.cells #[.bool bn, .slice ab q cb] 86) := ⟨_, rfl⟩
  have g0 : W0.heap[w.heap.size]? = some (.cells #[.bool an, .slice aa p ca] 86) := by rw [hW0, Below.heap_alloc _ _ _ (by simp)]; exact heap_alloc_new w _
  have g1 : W0.heap[w.heap.size + 1]? = some (.cells #[.bool bn, .slice ab q cb] 86) := by rw [hW0]; exact alloc_last _ _ (by simp)
  have hb0 : Below w.heap.size w W0 := by rw [hW0]; exact (((Below.refl _ w).alloc (Nat.le_refl _) _).alloc (by simp) _)
  have HB0 := Lib.hid hb0
  obtain ⟨c00, c01, f00, f01⟩ := num_cells g0
  obtain ⟨c10, c11, f10, f11⟩ := num_cells g1
  have HW0 := Lib.hid hW0
  have HNA := Lib.hid (numH_below HA.out hb0)
  have HNC := Lib.hid (numH_below HC.out hb0)
  have hcx : Hid (∀ W, Below W0.heap.size W0 W → W.cell? ⟨w.heap.size, 0, none⟩ = some (.bool an) ∧ W.cell? ⟨w.heap.size, 1, none⟩ = some (.slice aa p ca) ∧ W.cell? ⟨w.heap.size + 1, 0, none⟩ = some (.bool bn) ∧ W.cell? ⟨w.heap.size + 1, 1, none⟩ = some (.slice ab q cb)) := fun W hb => by
    obtain ⟨k0, k1, -, -⟩ := num_cells ((hb.block _ (lt_of_heap g0)).trans g0)
    obtain ⟨k2, k3, -, -⟩ := num_cells ((hb.block _ (lt_of_heap g1)).trans g1)
    exact ⟨k0, k1, k2, k3⟩
  have hz0 := lt_of_heap g0
  have hz1 := lt_of_heap g1
  obtain ⟨nc, hnc⟩ : ∃ s, s = (!bn && decide (C ≠ 0)) := ⟨_, rfl⟩
  have HNEG : Hid (∀ W v, World.numH W v C → Calls Try.prog 61 #[.agg #[.bool bn, v]] W (SRet W nc C)) := fun W v h => by rw [hnc]; exact negative_any bn C _ (hw_vlt C) (by omega) v W (numH_raw h)
  obtain ⟨S, hS⟩ : ∃ S, S = (sumS A an C nc && decide (sumN A an C nc ≠ 0)) := ⟨_, rfl⟩
  obtain ⟨M, hM⟩ : ∃ M, M = sumN A an C nc := ⟨_, rfl⟩
  have HADD : Hid (∀ W va vb, World.numH W va A → World.numH W vb C → Calls Try.prog 56 #[.agg #[.bool an, va], .agg #[.bool nc, vb]] W (SRet W S M)) := fun W va vb h1 h2 => by rw [hS, hM]; exact hadd_any an A va nc C vb W h1 h2 (by omega) (by omega)
  have hz : zOf S M = zOf an A - zOf bn C := by
    rw [hS, hM, zOf_and]
    refine (sum_z A an C nc).trans ?_
    rw [hnc, zOf_and]
    unfold zOf
    cases bn <;> simp <;> omega
  have hc := cmp_sign an A bn C S M hz (fun h => by
    rw [hS, ← hM] at h
    intro h0
    rw [h0] at h
    simp at h)
  obtain ⟨R, hR⟩ : ∃ R, R = cmpZ (zOf an A) (zOf bn C) := ⟨_, rfl⟩
  rw [← hR] at hc ⊢
  have HRR := Lib.hid hc
  obtain ⟨HPOST, hpost⟩ : ∃ X : Ending → World → Prop, X = fun e w' => e = .returned (.int .i64 R) ∧ Below w.heap.size w w' := ⟨_, rfl⟩
  rw [← hpost]
  have HP := Lib.hid hpost
  clear hb0 g0 g1 hW0 hpost hnc hS hM hz hc hR
  go_enter Try.func59, Try.ntmps59
  go_upto_region 1 with (fail)
  rw [← HW0.out]
  go_wp2_with fail
  refine wp_region_late (fun w' => w'.cell? ⟨w.heap.size, 0, none⟩ = some (.bool an) ∧ w'.cell? ⟨w.heap.size, 1, none⟩ = some (.slice aa p ca) ∧ w'.cell? ⟨w.heap.size + 1, 0, none⟩ = some (.bool bn) ∧ w'.cell? ⟨w.heap.size + 1, 1, none⟩ = some (.slice ab q cb)) (fun j => decide (j = 5)) (by kernel_rfl) ⟨c00, c01, c10, c11⟩ (fun hHeld => ?_)
  refine wpAnyD_take 0 (v := ?_) (by kernel_rfl) (by kernel_rfl) rfl (by kernel_rfl) (by kernel_rfl) (fun _ _ _ h => h) (Or.inl ⟨by rfl, ?_⟩) (by assumption) ?_
  rotate_left
  · (intro wq hSq; (try dsimp only at hSq); go_simp; try with_reducible rfl)
  try simp only [Act.put, List.setIfInBounds_toArray, List.set_cons_zero, List.set_cons_succ]
  refine wpAnyD_take 1 (v := ?_) (by kernel_rfl) (by kernel_rfl) rfl (by kernel_rfl) (by kernel_rfl) (fun _ _ _ h => h) (Or.inl ⟨by rfl, ?_⟩) (by assumption) ?_
  rotate_left
  · (intro wq hSq; (try dsimp only at hSq); go_simp; try with_reducible rfl)
  try simp only [Act.put, List.setIfInBounds_toArray, List.set_cons_zero, List.set_cons_succ]
  have hdd := ((Below.refl W0.heap.size W0).drew)
  have hna := HNA.out.drew
  have hnc := HNC.out.drew
  have HHA : Hid (World.numH W0.drew (.slice aa p ca) A) := hna
  have HHC : Hid (World.numH W0.drew (.slice ab q cb) C) := hnc
  generalize W0.drew = X0 at hdd HHA HHC hHeld ⊢
  have HDD := Lib.hid hdd
  clear hna hnc hdd c00 c01 c10 c11 f00 f01 f10 f11
  refine wpAnyD_two 2 4 (by kernel_rfl) rfl rfl (fun K hK => ?_) (fun K hK => ?_)
  · go_simp
    go_at_call 61
    (with_reducible refine (HNEG.out _ _ HHC.out).mono ?_)
    rintro e u1 ⟨vu1, rfl, hnu1, hbu⟩
    obtain ⟨au1, Lu1, cu1, eu1⟩ : ∃ a L c, vu1 = .slice a L c := by obtain ⟨x, y, h⟩ := reads_len hnu1; exact ⟨x, _, y, h⟩
    subst eu1
    have hbx := below_via HDD.out hbu
    have HD1 := Lib.hid hbx
    have HF1A := Lib.hid (numH_below HHA.out hbu)
    have HF1B := Lib.hid (numH_below HHC.out hbu)
    have HF1u1 := Lib.hid hnu1
    refine hK.out _ _ (hcx.out _ hbx) (fun hHeld1 => ?_)
    clear hbu hbx hnu1 hK K hHeld
    try simp only [Act.put, List.setIfInBounds_toArray, List.set_cons_zero, List.set_cons_succ]
    refine wpAnyD_two 3 4 (by kernel_rfl) rfl rfl (fun K hK => ?_) (fun K hK => ?_)
    · go_simp
      go_at_call 56
      (with_reducible refine (HADD.out _ _ _ HF1A.out HF1u1.out).mono ?_)
      rintro e u2 ⟨vu2, rfl, hnu2, hbu⟩
      obtain ⟨au2, Lu2, cu2, eu2⟩ : ∃ a L c, vu2 = .slice a L c := by obtain ⟨x, y, h⟩ := reads_len hnu2; exact ⟨x, _, y, h⟩
      subst eu2
      have hbx := below_via HD1.out hbu
      have HD2 := Lib.hid hbx
      have HF2A := Lib.hid (numH_below HF1A.out hbu)
      have HF2B := Lib.hid (numH_below HF1B.out hbu)
      have HF2u1 := Lib.hid (numH_below HF1u1.out hbu)
      have HF2u2 := Lib.hid hnu2
      refine hK.out _ _ (hcx.out _ hbx) (fun hHeld2 => ?_)
      clear hbu hbx hnu2 hK K hHeld1
      try simp only [Act.put, List.setIfInBounds_toArray, List.set_cons_zero, List.set_cons_succ]
      refine wpAnyD_keep 4 (by kernel_rfl) rfl (fun K hK => ?_)
      go_simp
      have hbx : Below W0.heap.size W0 (u2.alloc (.cells #[.bool false, .slice none 0 0] 86)) := HD2.out.alloc HD2.out.size _
      have hpx : (u2.alloc (.cells #[.bool false, .slice none 0 0] 86)).heap[u2.heap.size]? = some (.cells #[.bool false, .slice none 0 0] 86) := heap_alloc_new u2 _
      have hbd : Below u2.heap.size u2 (u2.alloc (.cells #[.bool false, .slice none 0 0] 86)) := (Below.refl _ _).alloc (Nat.le_refl _) _
      have HD3 := Lib.hid hbx
      have HP3 := Lib.hid hpx
      have HF3A := Lib.hid (numH_below HF2A.out hbd)
      have HF3B := Lib.hid (numH_below HF2B.out hbd)
      have HF3u1 := Lib.hid (numH_below HF2u1.out hbd)
      have HF3u2 := Lib.hid (numH_below HF2u2.out hbd)
      refine hK.out _ _ (hcx.out _ hbx) (fun hHeld3 => ?_)
      clear hbd hbx hpx hK K hHeld2
      try simp only [Act.put, List.setIfInBounds_toArray, List.set_cons_zero, List.set_cons_succ]
      generalize u2.alloc (.cells #[.bool false, .slice none 0 0] 86) = x3 at HD3 HP3 HF3A HF3B HF3u1 HF3u2 ⊢
      have hPz : W0.heap.size ≤ u2.heap.size := by first | exact Nat.le_refl _ | exact HD2.out.size
      obtain ⟨d0, d1, fz0, fz1⟩ := num_cells HP3.out
      refine wpAnyD_step 5 (by kernel_rfl) rfl rfl (fun K hK => ?_)
      go_simp
      refine hK.out _ _ ?_
      clear hK K hHeld3 d0 d1 fz0 fz1
      try simp only [Act.put, List.setIfInBounds_toArray, List.set_cons_zero, List.set_cons_succ]
      refine wpAnyD_end (by kernel_rfl) ?_
      have m2 := num_set HP3.out (.bool S) (.slice au2 Lu2 cu2)
      have hb9 : Below W0.heap.size W0 ((x3.setCell ⟨u2.heap.size, 0, none⟩ (.bool S)).setCell ⟨u2.heap.size, 1, none⟩ (.slice au2 Lu2 cu2)) := (HD3.out.setCell hPz _).setCell hPz _
      have hL : Lu2 = (hw M).length := by
        obtain ⟨x, y, e⟩ := reads_len HF3u2.out
        injection e with _ e2 _
        rw [e2, List.length_map]
      obtain ⟨d20, d21, -, -⟩ := num_cells m2
      clear m2
      generalize (x3.setCell ⟨u2.heap.size, 0, none⟩ (.bool S)).setCell ⟨u2.heap.size, 1, none⟩ (.slice au2 Lu2 cu2) = W9 at d20 d21 hb9 ⊢
      have HB9 := Lib.hid (HB0.out.trans (hb9.mono HB0.out.size))
      have hM : (M = 0 ∧ Lu2 = 0) ∨ (M ≠ 0 ∧ 0 < Lu2) := by
        have h3 := hw_pos (n := M)
        by_cases h : M = 0
        · left; exact ⟨h, by rw [hL, h]; rfl⟩
        · right; exact ⟨h, by rw [hL]; exact h3.2 h⟩
      have HRR2 := HRR.out
      clear hb9 hL
      cases S with
      | true =>
        have hRR : R = -1 := by rw [HRR2]; rfl
        subst hRR
        clear hM HRR2
        go_wp2
        rw [HP.out]
        exact ⟨rfl, HB9.out⟩
      | false =>
        rcases hM with ⟨hM0, hL0⟩ | ⟨hM0, hL0⟩
        · have hRR : R = 0 := by rw [HRR2, hM0]; rfl
          subst hL0 hRR
          clear HRR2 hM0
          have t0 : ¬ (0 : Int) < ((0 : Nat) : Int) := by omega
          go_wp2
          rw [HP.out]
          exact ⟨rfl, HB9.out⟩
        · have hRR : R = 1 := by rw [HRR2, if_neg (by decide), if_neg hM0]
          subst hRR
          clear HRR2 hM0
          have t0 : (0 : Int) < (Lu2 : Int) := by omega
          go_wp2
          rw [HP.out]
          exact ⟨rfl, HB9.out⟩
    · go_simp
      have hbx : Below W0.heap.size W0 (u1.alloc (.cells #[.bool false, .slice none 0 0] 86)) := HD1.out.alloc HD1.out.size _
      have hpx : (u1.alloc (.cells #[.bool false, .slice none 0 0] 86)).heap[u1.heap.size]? = some (.cells #[.bool false, .slice none 0 0] 86) := heap_alloc_new u1 _
      have hbd : Below u1.heap.size u1 (u1.alloc (.cells #[.bool false, .slice none 0 0] 86)) := (Below.refl _ _).alloc (Nat.le_refl _) _
      have HD2 := Lib.hid hbx
      have HP2 := Lib.hid hpx
      have HF2A := Lib.hid (numH_below HF1A.out hbd)
      have HF2B := Lib.hid (numH_below HF1B.out hbd)
      have HF2u1 := Lib.hid (numH_below HF1u1.out hbd)
      refine hK.out _ _ (hcx.out _ hbx) (fun hHeld2 => ?_)
      clear hbd hbx hpx hK K hHeld1
      try simp only [Act.put, List.setIfInBounds_toArray, List.set_cons_zero, List.set_cons_succ]
      generalize u1.alloc (.cells #[.bool false, .slice none 0 0] 86) = x2 at HD2 HP2 HF2A HF2B HF2u1 ⊢
      refine wpAnyD_keep 3 (by kernel_rfl) rfl (fun K hK => ?_)
      go_simp
      go_at_call 56
      (with_reducible refine (HADD.out _ _ _ HF2A.out HF2u1.out).mono ?_)
      rintro e u3 ⟨vu3, rfl, hnu3, hbu⟩
      obtain ⟨au3, Lu3, cu3, eu3⟩ : ∃ a L c, vu3 = .slice a L c := by obtain ⟨x, y, h⟩ := reads_len hnu3; exact ⟨x, _, y, h⟩
      subst eu3
      have hbx := below_via HD2.out hbu
      have HD3 := Lib.hid hbx
      have HF3A := Lib.hid (numH_below HF2A.out hbu)
      have HF3B := Lib.hid (numH_below HF2B.out hbu)
      have HF3u1 := Lib.hid (numH_below HF2u1.out hbu)
      have HF3u3 := Lib.hid hnu3
      have HP3 := Lib.hid ((hbu.block _ (lt_of_heap HP2.out)).trans HP2.out)
      refine hK.out _ _ (hcx.out _ hbx) (fun hHeld3 => ?_)
      clear hbu hbx hnu3 hK K hHeld2
      try simp only [Act.put, List.setIfInBounds_toArray, List.set_cons_zero, List.set_cons_succ]
      have hPz : W0.heap.size ≤ u1.heap.size := by first | exact Nat.le_refl _ | exact HD1.out.size
      obtain ⟨d0, d1, fz0, fz1⟩ := num_cells HP3.out
      refine wpAnyD_step 5 (by kernel_rfl) rfl rfl (fun K hK => ?_)
      go_simp
      refine hK.out _ _ ?_
      clear hK K hHeld3 d0 d1 fz0 fz1
      try simp only [Act.put, List.setIfInBounds_toArray, List.set_cons_zero, List.set_cons_succ]
      refine wpAnyD_end (by kernel_rfl) ?_
      have m2 := num_set HP3.out (.bool S) (.slice au3 Lu3 cu3)
      have hb9 : Below W0.heap.size W0 ((u3.setCell ⟨u1.heap.size, 0, none⟩ (.bool S)).setCell ⟨u1.heap.size, 1, none⟩ (.slice au3 Lu3 cu3)) := (HD3.out.setCell hPz _).setCell hPz _
      have hL : Lu3 = (hw M).length := by
        obtain ⟨x, y, e⟩ := reads_len HF3u3.out
        injection e with _ e2 _
        rw [e2, List.length_map]
      obtain ⟨d20, d21, -, -⟩ := num_cells m2
      clear m2
      generalize (u3.setCell ⟨u1.heap.size, 0, none⟩ (.bool S)).setCell ⟨u1.heap.size, 1, none⟩ (.slice au3 Lu3 cu3) = W9 at d20 d21 hb9 ⊢
      have HB9 := Lib.hid (HB0.out.trans (hb9.mono HB0.out.size))
      have hM : (M = 0 ∧ Lu3 = 0) ∨ (M ≠ 0 ∧ 0 < Lu3) := by
        have h3 := hw_pos (n := M)
        by_cases h : M = 0
        · left; exact ⟨h, by rw [hL, h]; rfl⟩
        · right; exact ⟨h, by rw [hL]; exact h3.2 h⟩
      have HRR2 := HRR.out
      clear hb9 hL
      cases S with
      | true =>
        have hRR : R = -1 := by rw [HRR2]; rfl
        subst hRR
        clear hM HRR2
        go_wp2
        rw [HP.out]
        exact ⟨rfl, HB9.out⟩
      | false =>
        rcases hM with ⟨hM0, hL0⟩ | ⟨hM0, hL0⟩
        · have hRR : R = 0 := by rw [HRR2, hM0]; rfl
          subst hL0 hRR
          clear HRR2 hM0
          have t0 : ¬ (0 : Int) < ((0 : Nat) : Int) := by omega
          go_wp2
          rw [HP.out]
          exact ⟨rfl, HB9.out⟩
        · have hRR : R = 1 := by rw [HRR2, if_neg (by decide), if_neg hM0]
          subst hRR
          clear HRR2 hM0
          have t0 : (0 : Int) < (Lu3 : Int) := by omega
          go_wp2
          rw [HP.out]
          exact ⟨rfl, HB9.out⟩
  · go_simp
    have hbx : Below W0.heap.size W0 (X0.alloc (.cells #[.bool false, .slice none 0 0] 86)) := HDD.out.alloc HDD.out.size _
    have hpx : (X0.alloc (.cells #[.bool false, .slice none 0 0] 86)).heap[X0.heap.size]? = some (.cells #[.bool false, .slice none 0 0] 86) := heap_alloc_new X0 _
    have hbd : Below X0.heap.size X0 (X0.alloc (.cells #[.bool false, .slice none 0 0] 86)) := (Below.refl _ _).alloc (Nat.le_refl _) _
    have HD1 := Lib.hid hbx
    have HP1 := Lib.hid hpx
    have HF1A := Lib.hid (numH_below HHA.out hbd)
    have HF1B := Lib.hid (numH_below HHC.out hbd)
    refine hK.out _ _ (hcx.out _ hbx) (fun hHeld1 => ?_)
    clear hbd hbx hpx hK K hHeld
    try simp only [Act.put, List.setIfInBounds_toArray, List.set_cons_zero, List.set_cons_succ]
    generalize X0.alloc (.cells #[.bool false, .slice none 0 0] 86) = x1 at HD1 HP1 HF1A HF1B ⊢
    refine wpAnyD_keep 2 (by kernel_rfl) rfl (fun K hK => ?_)
    go_simp
    go_at_call 61
    (with_reducible refine (HNEG.out _ _ HF1B.out).mono ?_)
    rintro e u4 ⟨vu4, rfl, hnu4, hbu⟩
    obtain ⟨au4, Lu4, cu4, eu4⟩ : ∃ a L c, vu4 = .slice a L c := by obtain ⟨x, y, h⟩ := reads_len hnu4; exact ⟨x, _, y, h⟩
    subst eu4
    have hbx := below_via HD1.out hbu
    have HD2 := Lib.hid hbx
    have HF2A := Lib.hid (numH_below HF1A.out hbu)
    have HF2B := Lib.hid (numH_below HF1B.out hbu)
    have HF2u4 := Lib.hid hnu4
    have HP2 := Lib.hid ((hbu.block _ (lt_of_heap HP1.out)).trans HP1.out)
    refine hK.out _ _ (hcx.out _ hbx) (fun hHeld2 => ?_)
    clear hbu hbx hnu4 hK K hHeld1
    try simp only [Act.put, List.setIfInBounds_toArray, List.set_cons_zero, List.set_cons_succ]
    refine wpAnyD_keep 3 (by kernel_rfl) rfl (fun K hK => ?_)
    go_simp
    go_at_call 56
    (with_reducible refine (HADD.out _ _ _ HF2A.out HF2u4.out).mono ?_)
    rintro e u5 ⟨vu5, rfl, hnu5, hbu⟩
    obtain ⟨au5, Lu5, cu5, eu5⟩ : ∃ a L c, vu5 = .slice a L c := by obtain ⟨x, y, h⟩ := reads_len hnu5; exact ⟨x, _, y, h⟩
    subst eu5
    have hbx := below_via HD2.out hbu
    have HD3 := Lib.hid hbx
    have HF3A := Lib.hid (numH_below HF2A.out hbu)
    have HF3B := Lib.hid (numH_below HF2B.out hbu)
    have HF3u4 := Lib.hid (numH_below HF2u4.out hbu)
    have HF3u5 := Lib.hid hnu5
    have HP3 := Lib.hid ((hbu.block _ (lt_of_heap HP2.out)).trans HP2.out)
    refine hK.out _ _ (hcx.out _ hbx) (fun hHeld3 => ?_)
    clear hbu hbx hnu5 hK K hHeld2
    try simp only [Act.put, List.setIfInBounds_toArray, List.set_cons_zero, List.set_cons_succ]
    have hPz : W0.heap.size ≤ X0.heap.size := by first | exact Nat.le_refl _ | exact HDD.out.size
    obtain ⟨d0, d1, fz0, fz1⟩ := num_cells HP3.out
    refine wpAnyD_step 5 (by kernel_rfl) rfl rfl (fun K hK => ?_)
    go_simp
    refine hK.out _ _ ?_
    clear hK K hHeld3 d0 d1 fz0 fz1
    try simp only [Act.put, List.setIfInBounds_toArray, List.set_cons_zero, List.set_cons_succ]
    refine wpAnyD_end (by kernel_rfl) ?_
    have m2 := num_set HP3.out (.bool S) (.slice au5 Lu5 cu5)
    have hb9 : Below W0.heap.size W0 ((u5.setCell ⟨X0.heap.size, 0, none⟩ (.bool S)).setCell ⟨X0.heap.size, 1, none⟩ (.slice au5 Lu5 cu5)) := (HD3.out.setCell hPz _).setCell hPz _
    have hL : Lu5 = (hw M).length := by
      obtain ⟨x, y, e⟩ := reads_len HF3u5.out
      injection e with _ e2 _
      rw [e2, List.length_map]
    obtain ⟨d20, d21, -, -⟩ := num_cells m2
    clear m2
    generalize (u5.setCell ⟨X0.heap.size, 0, none⟩ (.bool S)).setCell ⟨X0.heap.size, 1, none⟩ (.slice au5 Lu5 cu5) = W9 at d20 d21 hb9 ⊢
    have HB9 := Lib.hid (HB0.out.trans (hb9.mono HB0.out.size))
    have hM : (M = 0 ∧ Lu5 = 0) ∨ (M ≠ 0 ∧ 0 < Lu5) := by
      have h3 := hw_pos (n := M)
      by_cases h : M = 0
      · left; exact ⟨h, by rw [hL, h]; rfl⟩
      · right; exact ⟨h, by rw [hL]; exact h3.2 h⟩
    have HRR2 := HRR.out
    clear hb9 hL
    cases S with
    | true =>
      have hRR : R = -1 := by rw [HRR2]; rfl
      subst hRR
      clear hM HRR2
      go_wp2
      rw [HP.out]
      exact ⟨rfl, HB9.out⟩
    | false =>
      rcases hM with ⟨hM0, hL0⟩ | ⟨hM0, hL0⟩
      · have hRR : R = 0 := by rw [HRR2, hM0]; rfl
        subst hL0 hRR
        clear HRR2 hM0
        have t0 : ¬ (0 : Int) < ((0 : Nat) : Int) := by omega
        go_wp2
        rw [HP.out]
        exact ⟨rfl, HB9.out⟩
      · have hRR : R = 1 := by rw [HRR2, if_neg (by decide), if_neg hM0]
        subst hRR
        clear HRR2 hM0
        have t0 : (0 : Int) < (Lu5 : Int) := by omega
        go_wp2
        rw [HP.out]
        exact ⟨rfl, HB9.out⟩
end Go.Proofs.Ytnjblppapmflhaa

/- Binary digits, comparisons: both. -/
namespace Go.Proofs.Ytnjblppapmflhaa
set_option linter.all false
open Go.RowKit Go.Shelf Go.WideNum
def bitB (neg : Bool) (s : ByteArray) : Int × Int := if validB neg s then ((bitsN (numB s) : Int), 0) else (0, 2)
theorem bitsN_wd (n R L : Nat) (hn : 0 < n) (hR : R = (wd n).length) (hL : L = Lib.bitLen (dig 4294967296 n (R - 1))) : 0 < R ∧ L ≤ 32 ∧ bitsN n + 32 = 32 * R + L := by
  have hR0 : 0 < R := by
    rw [hR]
    exact wd_pos (by omega)
  obtain ⟨m, rfl⟩ : ∃ m, R = m + 1 := ⟨R - 1, by omega⟩
  rw [Nat.add_sub_cancel] at hL
  have hlt := wd_vlt n
  rw [← hR] at hlt
  obtain ⟨b1, b2, b3⟩ := bitLen_spec _ (wd_dig n m)
  rw [← hL] at b1 b2 b3
  have hdiv : n / 4294967296 ^ m < 4294967296 := by
    refine Nat.div_lt_of_lt_mul ?_
    rw [Nat.pow_succ] at hlt; exact hlt
  have hdt : dig 4294967296 n m = n / 4294967296 ^ m := by unfold dig; rw [Nat.mod_eq_of_lt hdiv]
  have htrim : dig 4294967296 n m ≠ 0 := by
    have h1 := words_trimmed (B := 4294967296) (by omega) n n (Nat.le_refl _)
    have h2 : (wd n).getLast? = some (dig 4294967296 n m) := by
      rw [List.getLast?_eq_getElem?, ← hR, Nat.add_sub_cancel]
      exact wd_get n m (by omega)
    exact h1 _ h2
  have b2 := b2 htrim
  rw [hdt] at b1 b2 htrim
  have hL1 : 1 ≤ L := by
    rcases Nat.eq_zero_or_pos L with h | h
    · rw [h, Nat.pow_zero] at b1; omega
    · exact h
  have e0 : 4294967296 ^ m = 2 ^ (32 * m) := by rw [show (4294967296 : Nat) = 2 ^ 32 by rfl, ← Nat.pow_mul]
  have hp : 0 < 4294967296 ^ m := Nat.pow_pos (by omega)
  have u1 : n < 2 ^ (32 * m + L) := by
    rw [Nat.pow_add, ← e0, Nat.mul_comm]
    exact (Nat.div_lt_iff_lt_mul hp).1 b1
  have u2 : 2 ^ (32 * m + (L - 1)) ≤ n := by
    rw [Nat.pow_add, ← e0, Nat.mul_comm]
    refine (Nat.le_div_iff_mul_le hp).1 ?_
    have h3 : 2 ^ L = 2 * 2 ^ (L - 1) := by rw [← Nat.pow_succ']; congr 1; omega
    rw [h3] at b2
    generalize 2 ^ (L - 1) = P at *
    generalize n / 4294967296 ^ m = D at *
    clear u1 e0 hp hlt b1 h3
    omega
  have h1 := bitsN_le u1
  have h2 := bitsN_lt u2
  exact ⟨hR0, b3, by omega⟩
end Go.Proofs.Ytnjblppapmflhaa

/- Comparisons, negatives, absolute values and maxima: both. -/
namespace Go.Proofs.Ytnjblppapmflhaa
set_option linter.all false
open Go.RowKit Go.Shelf Go.WideNum
set_option maxRecDepth 100000 in
set_option maxHeartbeats 8000000 in
theorem refCmp_any (na : Bool) (sa : ByteArray) (nb : Bool) (sb : ByteArray) (hsa : sa.size ≤ maxLen) (hsb : sb.size ≤ maxLen) (R E : Int) (h : cmpF na sa nb sb = (R, E)) (w : World) :
    Calls Try.prog 26 #[.agg #[.bool na, .string sa], .agg #[.bool nb, .string sb]] w fun e w' => e = .returned (.tuple #[.int .i64 R, .int .i64 E]) ∧ Below w.heap.size w w' := by
  obtain ⟨HPOST, hpost⟩ : ∃ X : Ending → World → Prop, X = fun e w' => e = .returned (.tuple #[.int .i64 R, .int .i64 E]) ∧ Below w.heap.size w w' := ⟨_, rfl⟩
  rw [← hpost]
  have HP := Lib.hid hpost
  clear hpost
  obtain ⟨oka, hoka⟩ : ∃ ok, ok = validB na sa := ⟨_, rfl⟩
  obtain ⟨okb, hokb⟩ : ∃ ok, ok = validB nb sb := ⟨_, rfl⟩
  have HVA := Lib.hid (refValid_wide na sa hsa oka hoka)
  have HVB := Lib.hid (refValid_wide nb sb hsb okb hokb)
  unfold cmpF at h
  rw [← hoka, ← hokb] at h
  have HOA := Lib.hid hoka
  have HOB := Lib.hid hokb
  have HH := Lib.hid h
  clear hoka hokb h
  obtain ⟨W0, hW0⟩ : ∃ W0, W0 = (w.alloc (.cells #[.bool na, .string sa] 38)).alloc (.cells #[.bool nb, .string sb] 38) := ⟨_, rfl⟩
  have g0 : W0.heap[w.heap.size]? = some (.cells #[.bool na, .string sa] 38) := by rw [hW0, Below.heap_alloc _ _ _ (by simp)]; exact heap_alloc_new w _
  have g1 : W0.heap[w.heap.size + 1]? = some (.cells #[.bool nb, .string sb] 38) := by rw [hW0]; exact alloc_last _ _ (by simp)
  have hb0 : Below w.heap.size w W0 := by rw [hW0]; exact (((Below.refl _ w).alloc (Nat.le_refl _) _).alloc (by simp) _)
  have HB0 := Lib.hid hb0
  have hcx : Hid (∀ W, Below W0.heap.size W0 W → W.cell? ⟨w.heap.size, 0, none⟩ = some (.bool na) ∧ W.cell? ⟨w.heap.size, 1, none⟩ = some (.string sa) ∧ W.cell? ⟨w.heap.size + 1, 0, none⟩ = some (.bool nb) ∧ W.cell? ⟨w.heap.size + 1, 1, none⟩ = some (.string sb)) :=
    fun W hb => keep4 ((hb.block _ (lt_of_heap g0)).trans g0) ((hb.block _ (lt_of_heap g1)).trans g1)
  have HW0 := Lib.hid hW0
  clear hb0 g0 g1 hW0
  obtain ⟨c00, c01, c10, c11⟩ := hcx.out W0 (Below.refl _ W0)
  go_enter Try.func26, Try.ntmps26
  go_upto_region 1 with (fail)
  rw [← HW0.out]
  go_wp2_with fail
  (with_reducible refine (HVA.out _).mono ?_)
  rintro e w1 ⟨rfl, hb1⟩
  have HB1 := Lib.hid hb1
  clear c00 c01 c10 c11 hb1
  obtain ⟨c00, c01, c10, c11⟩ := hcx.out w1 HB1.out
  cases oka with
  | false =>
    obtain ⟨rfl, rfl⟩ : R = 0 ∧ E = 2 := by
      have h : ((0 : Int), (2 : Int)) = (R, E) := HH.out
      injection h with h1 h2
      exact ⟨h1.symm, h2.symm⟩
    have HBW := Lib.hid (HB0.out.trans (HB1.out.mono HB0.out.size))
    clear c00 c01 c10 c11
    go_wp2
    rw [HP.out]
    exact ⟨rfl, HBW.out⟩
  | true =>
    go_wp2_with fail
    (with_reducible refine (HVB.out _).mono ?_)
    rintro e w2 ⟨rfl, hb2⟩
    have HB2 := Lib.hid (below_via HB1.out hb2)
    clear c00 c01 c10 c11 hb2
    cases okb with
    | false =>
      obtain ⟨rfl, rfl⟩ : R = 0 ∧ E = 2 := by
        have h : ((0 : Int), (2 : Int)) = (R, E) := HH.out
        injection h with h1 h2
        exact ⟨h1.symm, h2.symm⟩
      have HBW := Lib.hid (HB0.out.trans (HB2.out.mono HB0.out.size))
      go_wp2
      rw [HP.out]
      exact ⟨rfl, HBW.out⟩
    | true =>
      obtain ⟨l1, -, -, -⟩ := valid_spec na sa HOA.out.symm
      obtain ⟨l2, -, -, -⟩ := valid_spec nb sb HOB.out.symm
      have HINA := Lib.hid (in_any na sa HOA.out.symm)
      have HINB := Lib.hid (in_any nb sb HOB.out.symm)
      have hwa := hw_len129 l1
      have hwb := hw_len129 l2
      obtain ⟨rfl, rfl⟩ : R = cmpZ (zV na sa) (zV nb sb) ∧ E = 0 := by
        have h : (cmpZ (zV na sa) (zV nb sb), (0 : Int)) = (R, E) := by have h := HH.out; simpa using h
        injection h with h1 h2
        exact ⟨h1.symm, h2.symm⟩
      unfold zV at HP
      obtain ⟨A, eA⟩ : ∃ A, A = numB sa := ⟨_, rfl⟩
      obtain ⟨C, eC⟩ : ∃ C, C = numB sb := ⟨_, rfl⟩
      rw [← eA] at HP hwa HINA
      rw [← eC] at HP hwb HINB
      have HCM : Hid (∀ W va vb, World.numH W va A → World.numH W vb C → Calls Try.prog 59 #[.agg #[.bool na, va], .agg #[.bool nb, vb]] W fun e w' => e = .returned (.int .i64 (cmpZ (zOf na A) (zOf nb C))) ∧ Below W.heap.size W w') := fun W va vb h1 h2 => hcompare_any na A va nb C vb W h1 h2 (by omega) (by omega)
      obtain ⟨R, hR⟩ : ∃ R, R = cmpZ (zOf na A) (zOf nb C) := ⟨_, rfl⟩
      rw [← hR] at HCM HP
      clear eA eC l1 l2 hwa hwb hR HH
      obtain ⟨c00, c01, c10, c11⟩ := hcx.out w2 HB2.out
      go_wp2_with fail
      refine wp_region_late (fun w' => w'.cell? ⟨w.heap.size, 0, none⟩ = some (.bool na) ∧ w'.cell? ⟨w.heap.size, 1, none⟩ = some (.string sa) ∧ w'.cell? ⟨w.heap.size + 1, 0, none⟩ = some (.bool nb) ∧ w'.cell? ⟨w.heap.size + 1, 1, none⟩ = some (.string sb)) (fun _ => false) (by kernel_rfl) ⟨c00, c01, c10, c11⟩ (fun hHeld => ?_)
      refine wpAnyD_take 0 (v := ?_) (by kernel_rfl) (by kernel_rfl) rfl (by kernel_rfl) (by kernel_rfl) (fun _ _ _ h => h) (Or.inl ⟨by rfl, ?_⟩) (by assumption) ?_
      rotate_left
      · (intro wq hSq; (try dsimp only at hSq); go_simp; try with_reducible rfl)
      try simp only [Act.put, List.setIfInBounds_toArray, List.set_cons_zero, List.set_cons_succ]
      refine wpAnyD_take 2 (v := ?_) (by kernel_rfl) (by kernel_rfl) rfl (by kernel_rfl) (by kernel_rfl) (fun _ _ _ h => h) (Or.inl ⟨by rfl, ?_⟩) (by assumption) ?_
      rotate_left
      · (intro wq hSq; (try dsimp only at hSq); go_simp; try with_reducible rfl)
      try simp only [Act.put, List.setIfInBounds_toArray, List.set_cons_zero, List.set_cons_succ]
      clear c00 c01 c10 c11
      refine wpAnyD_keep 1 (by kernel_rfl) rfl (fun K hK => ?_)
      go_simp
      go_at_call 57
      (with_reducible refine (HINA.out _).mono ?_)
      rintro e u1 ⟨vu1, rfl, hnu1, hbu⟩
      obtain ⟨au1, Lu1, cu1, eu1⟩ : ∃ a L c, vu1 = .slice a L c := by obtain ⟨x, y, h⟩ := reads_len hnu1; exact ⟨x, _, y, h⟩
      subst eu1
      have HNu1 := Lib.hid hnu1
      have HB3 := Lib.hid (below_viaD HB2.out hbu)
      refine hK.out _ _ (hcx.out _ HB3.out) (fun hHeld1 => ?_)
      clear hbu hnu1 hK K hHeld
      try simp only [Act.put, List.setIfInBounds_toArray, List.set_cons_zero, List.set_cons_succ]
      refine wpAnyD_keep 3 (by kernel_rfl) rfl (fun K hK => ?_)
      go_simp
      go_at_call 57
      (with_reducible refine (HINB.out _).mono ?_)
      rintro e u2 ⟨vu2, rfl, hnu2, hbu⟩
      obtain ⟨au2, Lu2, cu2, eu2⟩ : ∃ a L c, vu2 = .slice a L c := by obtain ⟨x, y, h⟩ := reads_len hnu2; exact ⟨x, _, y, h⟩
      subst eu2
      have HNu2 := Lib.hid hnu2
      have HB4 := Lib.hid (below_via HB3.out hbu)
      have HNA2 := Lib.hid (numH_below HNu1.out hbu)
      refine hK.out _ _ (hcx.out _ HB4.out) (fun hHeld2 => ?_)
      clear hbu hnu2 hK K hHeld1
      try simp only [Act.put, List.setIfInBounds_toArray, List.set_cons_zero, List.set_cons_succ]
      refine wpAnyD_keep 4 (by kernel_rfl) rfl (fun K hK => ?_)
      go_simp
      go_at_call 59
      (with_reducible refine (HCM.out _ _ _ HNA2.out HNu2.out).mono ?_)
      rintro e u3 ⟨rfl, hbu⟩
      have HB5 := Lib.hid (below_via HB4.out hbu)
      refine hK.out _ _ (hcx.out _ HB5.out) (fun hHeld3 => ?_)
      clear hbu hK K hHeld2
      try simp only [Act.put, List.setIfInBounds_toArray, List.set_cons_zero, List.set_cons_succ]
      refine wpAnyD_takeW 5 (v := ?_) (by kernel_rfl) rfl (by kernel_rfl) (by kernel_rfl) (fun _ _ _ h => h) (Or.inl ⟨by rfl, ?_⟩) ?_
      rotate_left
      · (intro wq hSq; (try dsimp only at hSq); go_simp; try with_reducible rfl)
      try simp only [Act.put, List.setIfInBounds_toArray, List.set_cons_zero, List.set_cons_succ]
      refine wpAnyD_takeW 6 (v := ?_) (by kernel_rfl) rfl (by kernel_rfl) (by kernel_rfl) (fun _ _ _ h => h) (Or.inl ⟨by rfl, ?_⟩) ?_
      rotate_left
      · (intro wq hSq; (try dsimp only at hSq); go_simp; try with_reducible rfl)
      try simp only [Act.put, List.setIfInBounds_toArray, List.set_cons_zero, List.set_cons_succ]
      refine wpAnyD_end (by kernel_rfl) ?_
      have HBW := Lib.hid (HB0.out.trans (HB5.out.mono HB0.out.size))
      go_wp2
      rw [HP.out]
      exact ⟨rfl, HBW.out⟩
/-- What Neg and Abs answer. -/
def negF (neg : Bool) (s : ByteArray) : Bool × ByteArray × Int := if validB neg s then (!neg && decide (s.size ≠ 0), s, 0) else (false, ⟨#[]⟩, 2)
def absF (neg : Bool) (s : ByteArray) : Bool × ByteArray × Int := if validB neg s then (false, s, 0) else (false, ⟨#[]⟩, 2)
theorem neg_out (neg : Bool) (s : ByteArray) (hv : validB neg s = true) (S : Bool) (hS : S = (!neg && decide (numB s ≠ 0))) : outZ (zOf S (numB s)) = .agg #[.bool (!neg && decide (s.size ≠ 0)), .string s] ∧ errZ (zOf S (numB s)) = 0 := by
  obtain ⟨h1, h2, h3, h4⟩ := valid_spec neg s hv
  have hl : (words 256 (numB s)).length = s.size := by
    rw [← magL_length]
    conv => rhs; rw [← h2]
    rfl
  have h0 := words_len0 (B := 256) (by omega) (numB s)
  rw [hl] at h0
  rw [← outB_z, ← outE_z]
  unfold outB outE
  rw [if_pos h1, if_pos h1, h2, hS]
  refine ⟨?_, rfl⟩
  unfold wideV
  congr 4
  by_cases h : numB s = 0
  · have := h0.2 h
    simp [h, this]
  · have : s.size ≠ 0 := fun hh => h (h0.1 hh)
    simp [h, this]
set_option maxRecDepth 100000 in
set_option maxHeartbeats 8000000 in
theorem refAbs_any (neg : Bool) (s : ByteArray) (hs : s.size ≤ maxLen) (fb : Bool) (ft : ByteArray) (E : Int) (h : absF neg s = (fb, ft, E)) (w : World) :
    Calls Try.prog 22 #[.agg #[.bool neg, .string s]] w fun e w' => e = .returned (.tuple #[.agg #[.bool fb, .string ft], .int .i64 E]) ∧ Below w.heap.size w w' := by
  obtain ⟨HPOST, hpost⟩ : ∃ X : Ending → World → Prop, X = fun e w' => e = .returned (.tuple #[.agg #[.bool fb, .string ft], .int .i64 E]) ∧ Below w.heap.size w w' := ⟨_, rfl⟩
  rw [← hpost]
  have HP := Lib.hid hpost
  clear hpost
  have hs63 : s.size ≤ 9223372036854775807 := hs
  obtain ⟨ok, hok⟩ : ∃ ok, ok = validB neg s := ⟨_, rfl⟩
  have HV : Hid (∀ W : World, Calls Try.prog 18 #[.agg #[.bool neg, .string s]] W fun e w' => e = .returned (.bool ok) ∧ Below W.heap.size W w') := fun W => by rw [hok]; exact refValid_wide neg s hs _ rfl W
  unfold absF at h
  rw [← hok] at h
  have HOK := Lib.hid hok
  have HH := Lib.hid h
  clear hok h
  obtain ⟨W0, hW0⟩ : ∃ W0, W0 = (w.alloc (.cells #[.bool neg, .string s] 38)).alloc (.cells #[.bool false, .string ⟨#[]⟩] 38) := ⟨_, rfl⟩
  have g0 : W0.heap[w.heap.size]? = some (.cells #[.bool neg, .string s] 38) := by rw [hW0, Below.heap_alloc _ _ _ (by simp)]; exact heap_alloc_new w _
  have g1 : W0.heap[w.heap.size + 1]? = some (.cells #[.bool false, .string ⟨#[]⟩] 38) := by rw [hW0]; exact alloc_last _ _ (by simp)
  have hb0 : Below w.heap.size w W0 := by rw [hW0]; exact (((Below.refl _ w).alloc (Nat.le_refl _) _).alloc (by simp) _)
  have HB0 := Lib.hid hb0
  have HG0 := Lib.hid g0
  have HG1 := Lib.hid g1
  have HW0 := Lib.hid hW0
  obtain ⟨c0, c1, f0⟩ := wide_cells g0
  clear hb0 g0 g1 hW0
  go_enter Try.func22, Try.ntmps22
  go_upto_region 1 with (fail)
  rw [← HW0.out]
  go_wp2_with fail
  (with_reducible refine (HV.out _).mono ?_)
  rintro e w1 ⟨rfl, hb1⟩
  have HK0 := Lib.hid (wide_hold (w := W0) HG0.out hb1)
  have HK1 := Lib.hid (wide_hold (w := W0) HG1.out hb1)
  have HB1 := Lib.hid (HB0.out.trans (hb1.mono HB0.out.size))
  clear c0 c1 f0 hb1
  obtain ⟨c0, c1, f0⟩ := wide_cells HK0.out
  obtain ⟨d0, d1, f1⟩ := wide_cells HK1.out
  cases ok with
  | false =>
    obtain ⟨rfl, rfl, rfl⟩ : fb = false ∧ ft = ⟨#[]⟩ ∧ E = 2 := by
      have h : (false, (⟨#[]⟩ : ByteArray), (2 : Int)) = (fb, ft, E) := HH.out
      injection h with h1 h2
      injection h2 with h2 h3
      exact ⟨h1.symm, h2.symm, h3.symm⟩
    clear HH c0 c1 f0
    go_wp2
    have m2 := wide_set HK1.out false ⟨#[]⟩
    have hb9 := below_set2 (p := w.heap.size + 1) HB1.out (by omega) false ⟨#[]⟩
    clear d0 d1 f1
    obtain ⟨d20, d21, -⟩ := wide_cells m2
    clear m2
    generalize (w1.setCell ⟨w.heap.size + 1, 0, none⟩ (.bool false)).setCell ⟨w.heap.size + 1, 1, none⟩ (.string ⟨#[]⟩) = W9 at d20 d21 hb9 ⊢
    rw [HP.out]
    exact bodyPost_ret (v := .tuple #[.agg #[.bool false, .string ⟨#[]⟩], .int .i64 2]) (by simp [results, Try.results22, go_sem, d20, d21]) rfl ⟨rfl, hb9⟩
  | true =>
    obtain ⟨rfl, rfl, rfl⟩ : fb = false ∧ ft = s ∧ E = 0 := by
      have h : (false, s, (0 : Int)) = (fb, ft, E) := by have h := HH.out; simpa using h
      injection h with h1 h2
      injection h2 with h2 h3
      exact ⟨h1.symm, h2.symm, h3.symm⟩
    clear HH
    go_wp2
    have m2 := wide_set HK1.out false ft
    have hb9 := below_set2 (p := w.heap.size + 1) HB1.out (by omega) false ft
    clear d0 d1 f1
    obtain ⟨d20, d21, -⟩ := wide_cells m2
    clear m2
    generalize (w1.setCell ⟨w.heap.size + 1, 0, none⟩ (.bool false)).setCell ⟨w.heap.size + 1, 1, none⟩ (.string ft) = W9 at d20 d21 hb9 ⊢
    rw [HP.out]
    exact bodyPost_ret (v := .tuple #[.agg #[.bool false, .string ft], .int .i64 0]) (by simp [results, Try.results22, go_sem, d20, d21]) rfl ⟨rfl, hb9⟩
def maxF (na : Bool) (sa : ByteArray) (nb : Bool) (sb : ByteArray) : Bool × ByteArray × Int := match cmpF na sa nb sb with
  | (c, E) => if E = 0 then (if c < 0 then (nb, sb, 0) else (na, sa, 0)) else (false, ⟨#[]⟩, E)
end Go.Proofs.Ytnjblppapmflhaa
