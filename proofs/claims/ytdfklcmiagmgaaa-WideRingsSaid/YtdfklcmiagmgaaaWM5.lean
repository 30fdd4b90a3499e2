/- Plain: the words of a number out of its bytes. -/
import Derived.Test.YtdfklcmiagmgaaaWB6
namespace Go.Proofs.Ytdfklcmiagmgaaa
set_option linter.all false
open Go.WideNum
theorem valW_dig {B : Nat} (hB : 0 < B) : ∀ (l : List Nat), (∀ x ∈ l, x < B) → ∀ k, dig B (valW B l) k = l.getD k 0
  | [], _, k => by simp [valW, dig]
  | x :: l, h, k => by
    have hx := h x (by simp)
    rw [valW]
    cases k with
    | zero => rw [dig_zero, Nat.add_mul_mod_self_left, Nat.mod_eq_of_lt hx]; rfl
    | succ k =>
      rw [dig_succ, Nat.add_mul_div_left _ _ hB, Nat.div_eq_of_lt hx, Nat.zero_add, valW_dig hB l (fun y hy => h y (by simp [hy])) k]
      simp
theorem byte_dig (l : List UInt8) (i : Nat) (hi : i < l.length) : (l[i].toNat) = dig 256 (valM l) (l.length - 1 - i) := by
  unfold valM
  rw [valW_dig (by omega) _ (fun x hx => by obtain ⟨y, _, rfl⟩ := List.mem_map.1 hx; exact y.toNat_lt)]
  rw [List.getD_eq_getElem?_getD, List.getElem?_map, List.getElem?_reverse (by omega)]
  rw [show l.length - 1 - (l.length - 1 - i) = i by omega, List.getElem?_eq_getElem hi]
  rfl
theorem valM_lt (l : List UInt8) : valM l < 256 ^ l.length := by
  have h := valW_lt (B := 256) (by omega) (l.reverse.map UInt8.toNat) (fun x hx => by obtain ⟨y, _, rfl⟩ := List.mem_map.1 hx; exact y.toNat_lt)
  simpa [valM] using h
/-- The number without its lowest k bytes. -/
def topB (n k : Nat) : Nat := n / 256 ^ k * 256 ^ k
theorem topB_zero (n : Nat) : topB n 0 = n := by simp [topB]
theorem topB_all (n N : Nat) (h : n < 256 ^ N) : topB n N = 0 := by simp [topB, Nat.div_eq_of_lt h]
theorem topB_step (n k q r : Nat) (hk : k = 4 * q + r) (hr : r < 4) :
    (∀ j, j ≠ q → dig 4294967296 (topB n (k + 1)) j = dig 4294967296 (topB n k) j) ∧
    ∃ u, dig 4294967296 (topB n (k + 1)) q = u * 2 ^ (8 * r + 8) ∧ dig 4294967296 (topB n k) q = u * 2 ^ (8 * r + 8) + dig 256 n k * 2 ^ (8 * r) := by
  subst hk
  obtain ⟨M, hM⟩ : ∃ M, M = n / 256 ^ (4 * q + r + 1) := ⟨_, rfl⟩
  obtain ⟨d, hd⟩ : ∃ d, d = dig 256 n (4 * q + r) := ⟨_, rfl⟩
  have hdl : d < 256 := by rw [hd]; exact dig_lt (by omega) _ _
  have e1 : topB n (4 * q + r + 1) = (M * 256 * 256 ^ r) * 4294967296 ^ q := by
    unfold topB
    rw [← hM, pow4, Nat.pow_succ, Nat.pow_add]
    simp only [Nat.mul_assoc, Nat.mul_comm, Nat.mul_left_comm]
  have e2 : topB n (4 * q + r) = ((M * 256 + d) * 256 ^ r) * 4294967296 ^ q := by
    unfold topB
    have h := div_pow_succ 256 n (4 * q + r)
    rw [← hM, ← hd] at h
    rw [h, pow4, Nat.pow_add, Nat.add_comm d, Nat.mul_comm 256 M]
    simp only [Nat.mul_assoc, Nat.mul_comm, Nat.mul_left_comm]
  rw [e1, e2, ← hd]
  clear e1 e2 hd hM
  have key : (∃ u, M * 256 * 256 ^ r % 4294967296 = u * 2 ^ (8 * r + 8) ∧ (M * 256 + d) * 256 ^ r % 4294967296 = u * 2 ^ (8 * r + 8) + d * 2 ^ (8 * r)) ∧ M * 256 * 256 ^ r / 4294967296 = (M * 256 + d) * 256 ^ r / 4294967296 := by
    rcases (show r = 0 ∨ r = 1 ∨ r = 2 ∨ r = 3 by omega) with rfl | rfl | rfl | rfl
    · refine ⟨⟨M % 16777216, ?_, ?_⟩, ?_⟩ <;> simp only [Nat.mul_zero, Nat.pow_zero, Nat.zero_add, Nat.mul_one] <;> omega
    · refine ⟨⟨M % 65536, ?_, ?_⟩, ?_⟩ <;> simp only [Nat.mul_one, Nat.pow_one] <;> omega
    · refine ⟨⟨M % 256, ?_, ?_⟩, ?_⟩ <;> rw [show (256 : Nat) ^ 2 = 65536 by rfl] <;> omega
    · refine ⟨⟨0, ?_, ?_⟩, ?_⟩ <;> rw [show (256 : Nat) ^ 3 = 16777216 by rfl] <;> omega
  obtain ⟨⟨u, k1, k2⟩, k3⟩ := key
  constructor
  · intro j hj
    rcases Nat.lt_or_ge j q with h | h
    · rw [dig_shift_lo (by omega) _ _ _ h, dig_shift_lo (by omega) _ _ _ h]
    · obtain ⟨t, rfl⟩ : ∃ t, j = q + (t + 1) := ⟨j - q - 1, by omega⟩
      rw [dig_shift_hi (by omega), dig_shift_hi (by omega), dig_succ, dig_succ, k3]
  · refine ⟨u, ?_, ?_⟩
    · have := dig_shift_hi (B := 4294967296) (by omega) (M * 256 * 256 ^ r) q 0
      rw [Nat.add_zero] at this
      rw [this, dig_zero, k1]
    · have := dig_shift_hi (B := 4294967296) (by omega) ((M * 256 + d) * 256 ^ r) q 0
      rw [Nat.add_zero] at this
      rw [this, dig_zero, k2]
end Go.Proofs.Ytdfklcmiagmgaaa
