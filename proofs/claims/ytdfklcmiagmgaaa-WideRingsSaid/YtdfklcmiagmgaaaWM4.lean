/- Plain: the bytes of a number out of its words. -/
import Derived.Test.YtdfklcmiagmgaaaWB5
namespace Go.Proofs.Ytdfklcmiagmgaaa
set_option linter.all false
open Go.WideNum
theorem pow4 (q : Nat) : 4294967296 ^ q = 256 ^ (4 * q) := by rw [show (4294967296 : Nat) = 256 ^ 4 by rfl, ← Nat.pow_mul]
theorem dig_byte (n k q r : Nat) (hk : k = 4 * q + r) (hr : r < 4) : dig 4294967296 n q / 2 ^ (8 * r) % 256 = dig 256 n k := by
  subst hk
  unfold dig
  rw [Nat.pow_mul, show (2 : Nat) ^ 8 = 256 by rfl, Nat.pow_add, ← Nat.div_div_eq_div_mul, ← pow4]
  generalize n / 4294967296 ^ q = m
  rcases (show r = 0 ∨ r = 1 ∨ r = 2 ∨ r = 3 by omega) with rfl | rfl | rfl | rfl
  · rw [Nat.pow_zero, Nat.div_one, Nat.div_one]; omega
  · rw [Nat.pow_one]; omega
  · rw [show (256 : Nat) ^ 2 = 65536 by rfl]; omega
  · rw [show (256 : Nat) ^ 3 = 16777216 by rfl]; omega
/-- How many bytes a number has. -/
theorem nbytes_spec (n R L : Nat) (hn : 0 < n) (hR : R = (wd n).length) (hL : L = Lib.bitLen (dig 4294967296 n (R - 1))) :
    0 < R ∧ 1 ≤ L ∧ L ≤ 32 ∧ (words 256 n).length = 4 * R - (32 - L) / 8 ∧ 0 < 4 * R - (32 - L) / 8 := by
  have hR0 : 0 < R := by
    rw [hR]
    rcases Nat.eq_zero_or_pos (wd n).length with h | h
    · have := (words_len0 (B := 4294967296) (by omega) n).1 h; omega
    · exact h
  obtain ⟨m, rfl⟩ : ∃ m, R = m + 1 := ⟨R - 1, by omega⟩
  rw [Nat.add_sub_cancel] at hL
  have hlt := wd_vlt n
  rw [← hR] at hlt
  have htop := wd_dig n m
  have hb := bitLen_spec _ htop
  rw [← hL] at hb
  obtain ⟨b1, b2, b3⟩ := hb
  have hdiv : n / 4294967296 ^ m < 4294967296 := by
    refine Nat.div_lt_of_lt_mul ?_
    rw [Nat.pow_succ] at hlt; exact hlt
  have hdt : dig 4294967296 n m = n / 4294967296 ^ m := by unfold dig; rw [Nat.mod_eq_of_lt hdiv]
  have htrim : dig 4294967296 n m ≠ 0 := by
    have h1 := words_trimmed (B := 4294967296) (by omega) n n (Nat.le_refl _)
    have h2 : (wd n).getLast? = some (dig 4294967296 n m) := by
      rw [List.getLast?_eq_getElem?, ← hR, Nat.add_sub_cancel]
      exact wd_get n m (by omega)
    exact h1 _ h2
  have b2 := b2 htrim
  rw [hdt] at b1 b2 htrim
  have hL1 : 1 ≤ L := by
    rcases Nat.eq_zero_or_pos L with h | h
    · rw [h, Nat.pow_zero] at b1; omega
    · exact h
  have e0 : 4294967296 ^ m = 2 ^ (32 * m) := by rw [show (4294967296 : Nat) = 2 ^ 32 by rfl, ← Nat.pow_mul]
  have hp : 0 < 4294967296 ^ m := Nat.pow_pos (by omega)
  -- n below 2^(32 m + L), and not below 2^(32 m + L - 1)
  have u1 : n < 2 ^ (32 * m + L) := by
    rw [Nat.pow_add, ← e0, Nat.mul_comm]
    exact (Nat.div_lt_iff_lt_mul hp).1 b1
  have u2 : 2 ^ (32 * m + (L - 1)) ≤ n := by
    rw [Nat.pow_add, ← e0, Nat.mul_comm]
    refine (Nat.le_div_iff_mul_le hp).1 ?_
    have h3 : 2 ^ L = 2 * 2 ^ (L - 1) := by rw [← Nat.pow_succ']; congr 1; omega
    rw [h3] at b2
    generalize 2 ^ (L - 1) = P at *
    generalize n / 4294967296 ^ m = D at *
    clear u1 e0 hp hlt b1 h3
    omega
  have p256 : ∀ k, 256 ^ k = 2 ^ (8 * k) := fun k => by rw [show (256 : Nat) = 2 ^ 8 by rfl, ← Nat.pow_mul]
  refine ⟨hR0, hL1, b3, ?_, by omega⟩
  have l1 := words_length (B := 256) (by omega) n (4 * (m + 1) - (32 - L) / 8) (by
    rw [p256]
    exact Nat.lt_of_lt_of_le u1 (Nat.pow_le_pow_right (by omega) (by omega)))
  have l2 := words_lenlt (B := 256) (by omega) n (4 * (m + 1) - (32 - L) / 8 - 1) (by
    rw [p256]
    exact Nat.le_trans (Nat.pow_le_pow_right (by omega) (by omega)) u2)
  omega
theorem magL_range (n N : Nat) (hN : N = (words 256 n).length) : magL n = (List.range N).map (fun i => UInt8.ofNat (dig 256 n (N - 1 - i))) := by
  unfold magL
  apply List.ext_getElem
  · simp [hN]
  · intro i h1 h2
    have hi : i < N := by simpa using h2
    rw [List.getElem_reverse, List.getElem_map, List.getElem_map, List.getElem_range]
    congr 1
    have h3 := words_getE (B := 256) (by omega) n (N - 1 - i) (by omega)
    have h4 : (words 256 n)[N - 1 - i]? = some (words 256 n)[N - 1 - i] := List.getElem?_eq_getElem (by omega)
    rw [h4] at h3
    injection h3 with h3
    rw [← h3]
    congr 1
    simp [hN]
theorem magL_length (n : Nat) : (magL n).length = (words 256 n).length := by simp [magL]
/-- The first number that is too great. -/
def lim : Nat := 256 ^ 256
theorem lim_iff (n N : Nat) (hN : N = (words 256 n).length) : n < lim ↔ N ≤ 256 := by
  unfold lim
  constructor
  · intro h; rw [hN]; exact words_length (by omega) n 256 h
  · intro h
    have h1 := words_vlt (B := 256) (by omega) n
    rw [← hN] at h1
    exact Nat.lt_of_lt_of_le h1 (Nat.pow_le_pow_right (by omega) h)
def magB (n : Nat) : ByteArray := ⟨(magL n).toArray⟩
def emptyW : Value := wideV false ⟨#[]⟩
def outB (neg : Bool) (n : Nat) : Value := if n < lim then wideV (neg && decide (n ≠ 0)) (magB n) else emptyW
def outE (n : Nat) : Int := if n < lim then 0 else 7
theorem lim_pos : 0 < lim := Nat.pow_pos (by omega)
end Go.Proofs.Ytdfklcmiagmgaaa
