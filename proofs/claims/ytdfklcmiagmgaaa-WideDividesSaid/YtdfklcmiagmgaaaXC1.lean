/- How many binary digits a form has. -/
import Derived.Test.YtdfklcmiagmgaaaXR9
namespace Go.Proofs.Ytdfklcmiagmgaaa
set_option linter.all false
open Go.RowKit Go.Shelf Go.WideNum
def bitsN (n : Nat) : Nat := (words 2 n).length
theorem bitsN_le {n k : Nat} (h : n < 2 ^ k) : bitsN n ≤ k := words_length (by omega) n k h
theorem bitsN_lt {n k : Nat} (h : 2 ^ k ≤ n) : k < bitsN n := words_lenlt (by omega) n k h
theorem bitsN_vlt (n : Nat) : n < 2 ^ bitsN n := words_vlt (by omega) n
theorem bits_top {n k : Nat} (h : bitsN n = k + 1) : dig 2 n k ≠ 0 := by
  have h1 := words_trimmed (B := 2) (by omega) n n (Nat.le_refl _)
  have h2 : (wordsOf 2 n n).getLast? = some (dig 2 n k) := by
    have h3 : (words 2 n).length = k + 1 := h
    have h4 : (words 2 n).getLast? = some (dig 2 n k) := by
      rw [List.getLast?_eq_getElem?, h3, Nat.add_sub_cancel]
      exact words_getE (by omega) n k (by omega)
    exact h4
  exact h1 _ h2
theorem pow16 (q : Nat) : 65536 ^ q = 2 ^ (16 * q) := by rw [show (65536 : Nat) = 2 ^ 16 by rfl, ← Nat.pow_mul]
theorem dig_bit (n i q r : Nat) (hi : i = 16 * q + r) (hr : r < 16) : dig 65536 n q / 2 ^ r % 2 = dig 2 n i := by
  subst hi
  unfold dig
  rw [pow16, Nat.pow_add, ← Nat.div_div_eq_div_mul]
  generalize n / 2 ^ (16 * q) = m
  have h1 : 2 ^ r * (2 * 2 ^ (15 - r)) = 65536 := by
    rw [show (65536 : Nat) = 2 ^ 16 by rfl, ← Nat.pow_succ', ← Nat.pow_add]
    congr 1; omega
  rw [← h1, Nat.mod_mul_right_div_self, Nat.mod_mul_right_mod]
theorem and_one (y : Nat) (hy : y < 4294967296) : bits .and .u32 (y : Int) 1 = ((y % 2 : Nat) : Int) := by
  show IntKind.u32.wrap ((BitVec.ofInt 32 _ &&& BitVec.ofInt 32 _).toNat : Int) = _
  rw [BitVec.ofInt_natCast, show (1 : Int) = ((1 : Nat) : Int) by rfl, BitVec.ofInt_natCast, BitVec.toNat_and, BitVec.toNat_ofNat, BitVec.toNat_ofNat, Nat.mod_eq_of_lt (by omega), Nat.mod_eq_of_lt (by omega), Nat.and_one_is_mod, IntKind.wrap_u32]
  omega
theorem bit_far (n i : Nat) (h : (hw n).length ≤ i / 16) : dig 2 n i = 0 := by
  refine dig_high (by omega) n i (Nat.lt_of_lt_of_le (hw_vlt n) ?_)
  rw [pow16]
  exact Nat.pow_le_pow_right (by omega) (by omega)
set_option maxRecDepth 100000 in
set_option maxHeartbeats 4000000 in
theorem hbit_any (A i : Nat) (hi : i ≤ 1000000) (va : Value) (w : World) (hA : World.numH w va A) (hla : (hw A).length ≤ 4000) (z : Int) (hz : z = (i : Int)) :
    Calls Try.prog 83 #[va, .int .i64 z] w fun e w' => e = .returned (.int .u32 (dig 2 A i : Int)) ∧ w = w' := by
  subst hz
  obtain ⟨aa, p, ca, hp, rfl, hca, hma, hsa⟩ := numH_words hA
  clear hA
  obtain ⟨R, hR⟩ : ∃ R, R = dig 2 A i := ⟨_, rfl⟩
  rw [← hR]
  obtain ⟨q, hq⟩ : ∃ q, q = i / 16 := ⟨_, rfl⟩
  obtain ⟨r, hr⟩ : ∃ q, q = i % 16 := ⟨_, rfl⟩
  have e1 : (i : Int) / 16 = (q : Int) := by omega
  have e2 : (i : Int) % 16 = (r : Int) := by omega
  by_cases hlt : q < p
  · have hlt' : ¬ (p : Int) ≤ (q : Int) := by omega
    have hlt2 : (q : Int) < (p : Int) := by omega
    have hq0 : (0 : Int) ≤ (q : Int) := by omega
    have hr0 : (0 : Int) ≤ (r : Int) := by omega
    have hr16 : (r : Int) < 16 := by omega
    obtain ⟨b, off, rfl, hbl, hx⟩ := hsa q hlt
    have hd := hw_dig A q
    have hb := dig_bit A i q r (by omega) (by omega)
    rw [← hR] at hb
    obtain ⟨x, ex⟩ : ∃ x, x = dig 65536 A q := ⟨_, rfl⟩
    rw [← ex] at hx hd hb
    obtain ⟨y, ey⟩ : ∃ y, y = x / 2 ^ r := ⟨_, rfl⟩
    rw [← ey] at hb
    have hyx : y ≤ x := by rw [ey]; exact Nat.div_le_self _ _
    have t1 : (x : Int) / 2 ^ r = (y : Int) := by rw [ey]; simp
    have t2 : bits .and .u32 (y : Int) 1 = (R : Int) := by rw [and_one y (by omega), hb]
    have HI : Hid (i ≤ 1000000) := hi
    clear hR hq hr hsa ex ey hb hp
    go_enter Try.func83, Try.ntmps83
    go_wp2
    go_ret
    exact ⟨rfl, rfl⟩
  · have hlt' : (p : Int) ≤ (q : Int) := by omega
    have hR0 : R = 0 := by rw [hR]; exact bit_far A i (by omega)
    subst hR0
    clear hR hq hr hsa hp
    go_enter Try.func83, Try.ntmps83
    go_wp2
    go_ret
    exact ⟨rfl, rfl⟩
set_option maxRecDepth 100000 in
set_option maxHeartbeats 4000000 in
theorem hbits_any (A : Nat) (va : Value) (w : World) (hA : World.numH w va A) (hla : (hw A).length ≤ 4000) :
    Calls Try.prog 75 #[va] w fun e w' => e = .returned (.int .i64 (bitsN A : Int)) ∧ w = w' := by
  have HA := Lib.hid hA
  obtain ⟨aa, p, ca, hp, rfl, hca, hma, hsa⟩ := numH_words hA
  obtain ⟨M, hM⟩ : ∃ M, M = bitsN A := ⟨_, rfl⟩
  rw [← hM]
  have HM := Lib.hid hM
  have hMp : M ≤ 16 * p := by
    rw [hM]
    refine bitsN_le ?_
    rw [← pow16, hp]
    exact hw_vlt A
  have hp4 : p ≤ 4000 := by omega
  have HLA := Lib.hid hla
  clear hA hsa hM hp hla
  go_enter Try.func75, Try.ntmps75
  go_wp2_with fail
  go_loop [3] (fun kv => ∃ k : Nat, M ≤ k ∧ k ≤ 16 * p ∧ kv = .int .i64 (k : Int)) (fun kv => (intOf kv).toNat)
  case atStart => exact ⟨16 * p, hMp, Nat.le_refl _, by go_num⟩
  case round =>
    obtain ⟨k, hk1, hk2, rfl⟩ := hrel
    by_cases hlt : M < k
    · obtain ⟨j, rfl⟩ : ∃ j, k = j + 1 := ⟨k - 1, by omega⟩
      have hz : dig 2 A j = 0 := dig_high (by omega) A j (Nat.lt_of_lt_of_le (bitsN_vlt A) (Nat.pow_le_pow_right (by omega) (by rw [← HM.out]; omega)))
      have hb := hbit_any A j (by omega) _ w HA.out HLA.out
      rw [hz] at hb
      have HBT := Lib.hid hb
      have t0 : (0 : Int) < ((j + 1 : Nat) : Int) := by omega
      clear hb hz
      go_wp2_with fail
      (with_reducible refine (HBT.out _ (by omega)).mono ?_)
      rintro e w1 ⟨rfl, rfl⟩
      go_wp2_with fail
      go_round
      case rel => exact ⟨j, by omega, by omega, by go_num⟩
      case measure => simp [intOf]
    · obtain rfl : k = M := by omega
      rcases Nat.eq_zero_or_pos k with h0 | h0
      · subst h0
        have t0 : ¬ (0 : Int) < ((0 : Nat) : Int) := by omega
        go_wp2
        go_ret
        exact ⟨rfl, rfl⟩
      · obtain ⟨j, rfl⟩ : ∃ j, k = j + 1 := ⟨k - 1, by omega⟩
        have hz := bits_top HM.out.symm
        have hd : dig 2 A j < 2 := dig_lt (by omega) A j
        have hb := hbit_any A j (by omega) _ w HA.out HLA.out
        obtain ⟨d, ed⟩ : ∃ d, d = dig 2 A j := ⟨_, rfl⟩
        rw [← ed] at hb hz
        have HBT := Lib.hid hb
        have t0 : (0 : Int) < ((j + 1 : Nat) : Int) := by omega
        have t1 : ((d : Int) == 0) = false := by rw [beq_eq_false_iff_ne]; omega
        clear hb hz ed hd
        go_wp2_with fail
        (with_reducible refine (HBT.out _ (by omega)).mono ?_)
        rintro e w1 ⟨rfl, rfl⟩
        go_wp2
        go_ret
        exact ⟨rfl, rfl⟩
end Go.Proofs.Ytdfklcmiagmgaaa
