/- Plain: decimal digits, nine at a time; a row that is turned round. -/
import Derived.Test.YtdfklcmiagmgaaaWD2
namespace Go.Proofs.Ytdfklcmiagmgaaa
set_option linter.all false
open Go.WideNum
theorem dec_split (N k : Nat) (hk : k ≤ 9) : N / 10 ^ k = N / 1000000000 * 10 ^ (9 - k) + N % 1000000000 / 10 ^ k := by
  have h := Nat.div_add_mod N 1000000000
  have hp : 0 < 10 ^ k := Nat.pow_pos (by omega)
  have e : 10 ^ k * 10 ^ (9 - k) = 1000000000 := by rw [← Nat.pow_add, show k + (9 - k) = 9 by omega]
  conv => lhs; rw [← h, ← e, Nat.mul_assoc, Nat.add_comm, Nat.add_mul_div_left _ _ hp]
  rw [e, Nat.add_comm, Nat.mul_comm]
theorem div_pow_add (n m k : Nat) : n / 10 ^ (m + k) = n / 10 ^ m / 10 ^ k := by rw [Nat.pow_add, Nat.div_div_eq_div_mul]
theorem dig_ten (n m k : Nat) (hk : k < 9) : dig 10 n (m + k) = n / 10 ^ m % 1000000000 / 10 ^ k % 10 := by
  unfold dig
  rw [div_pow_add, dec_split _ k (by omega)]
  obtain ⟨j, hj⟩ : ∃ j, 9 - k = j + 1 := ⟨8 - k, by omega⟩
  rw [hj, Nat.pow_succ, ← Nat.mul_assoc, Nat.add_comm, Nat.add_mul_mod_self_right]
theorem ten_pos {n j : Nat} (h : n / 10 ^ j ≠ 0) : j < (words 10 n).length := by
  rcases Nat.lt_or_ge j (words 10 n).length with h1 | h1
  · exact h1
  · exfalso
    apply h
    exact Nat.div_eq_of_lt (Nat.lt_of_lt_of_le (words_vlt (by omega) n) (Nat.pow_le_pow_right (by omega) h1))
theorem ten_zero {n j : Nat} (h : n / 10 ^ j = 0) : (words 10 n).length ≤ j := by
  refine words_length (by omega) n j ?_
  rcases (Nat.div_eq_zero_iff).1 h with h | h
  · have := Nat.pow_pos (show 0 < 10 by omega) (n := j); omega
  · exact h
/-- The digits of a number, the lowest first, as bytes. -/
def decDig (n m : Nat) : List Nat := (List.range m).map (fun j => 48 + dig 10 n j)
theorem decDig_succ (n m : Nat) : decDig n (m + 1) = decDig n m ++ [48 + dig 10 n m] := by unfold decDig; rw [List.range_succ, List.map_append]; rfl
theorem decDig_words (n : Nat) : decDig n (words 10 n).length = (words 10 n).map (fun d => 48 + d) := by
  unfold decDig
  apply List.ext_getElem
  · simp
  · intro i h1 h2
    have hi : i < (words 10 n).length := by simpa using h1
    have h3 := words_getE (B := 10) (by omega) n i hi
    rw [List.getElem?_eq_getElem hi] at h3
    injection h3 with h3
    simp [h3]
theorem decDig_lt (n m : Nat) : ∀ x ∈ decDig n m, x < 58 := by
  intro x hx
  unfold decDig at hx
  obtain ⟨j, _, rfl⟩ := List.mem_map.1 hx
  have := dig_lt (B := 10) (by omega) n j
  show 48 + dig 10 n j < 58
  omega
/-- What is turned round when i pairs have been swapped. -/
def revTo (l : List Nat) (i : Nat) : List Nat := (List.range l.length).map (fun j => if j < i ∨ l.length - 1 - i < j then l.getD (l.length - 1 - j) 0 else l.getD j 0)
theorem revTo_length (l : List Nat) (i : Nat) : (revTo l i).length = l.length := by simp [revTo]
theorem revTo_zero (l : List Nat) : revTo l 0 = l := by
  apply List.ext_getElem
  · simp [revTo]
  · intro j h1 h2
    simp only [revTo, List.getElem_map, List.getElem_range]
    rw [if_neg (by omega), List.getD_eq_getElem?_getD, List.getElem?_eq_getElem h2]; rfl
theorem revTo_get (l : List Nat) (i j : Nat) (hj : j < l.length) : (revTo l i).getD j 0 = if j < i ∨ l.length - 1 - i < j then l.getD (l.length - 1 - j) 0 else l.getD j 0 := by
  rw [List.getD_eq_getElem?_getD, List.getElem?_eq_getElem (by rw [revTo_length]; exact hj)]
  simp [revTo]
theorem revTo_step (l : List Nat) (i k : Nat) (hik : i < k) (hk : k = l.length - 1 - i) (hk2 : k < l.length) :
    revTo l (i + 1) = ((revTo l i).set i ((revTo l i).getD k 0)).set k ((revTo l i).getD i 0) := by
  have g1 := revTo_get l i k hk2
  have g2 := revTo_get l i i (by omega)
  rw [if_neg (by omega)] at g1 g2
  rw [g1, g2]
  apply List.ext_getElem
  · simp [revTo]
  · intro j h1 h2
    have hj : j < l.length := by simpa [revTo] using h1
    rw [List.getElem_set, List.getElem_set]
    have e : ∀ m (h : j < (revTo l m).length), (revTo l m)[j] = if j < m ∨ l.length - 1 - m < j then l.getD (l.length - 1 - j) 0 else l.getD j 0 := fun m h => by simp [revTo]
    rw [e, e]
    by_cases c1 : k = j
    · rw [if_pos c1, if_pos (by omega)]
      congr 1; omega
    · rw [if_neg c1]
      by_cases c2 : i = j
      · rw [if_pos c2, if_pos (by omega)]
        congr 1; omega
      · rw [if_neg c2]
        by_cases c3 : j < i ∨ l.length - 1 - i < j
        · rw [if_pos c3, if_pos (by omega)]
        · rw [if_neg c3, if_neg (by omega)]
theorem revTo_done (l : List Nat) (i : Nat) (h : l.length ≤ 2 * i + 1) : revTo l i = l.reverse := by
  apply List.ext_getElem
  · simp [revTo]
  · intro j h1 h2
    have hj : j < l.length := by simpa [revTo] using h1
    rw [List.getElem_reverse]
    simp only [revTo, List.getElem_map, List.getElem_range]
    split
    · rw [List.getD_eq_getElem?_getD, List.getElem?_eq_getElem (by omega)]; rfl
    · have : l.length - 1 - j = j := by omega
      rw [List.getD_eq_getElem?_getD, List.getElem?_eq_getElem hj]
      simp [this]
/-- The decimal text of an integer. -/
def textN (neg : Bool) (n : Nat) : List Nat := decDig n (words 10 n).length ++ (if neg then [45] else [])
def textL (neg : Bool) (n : Nat) : List UInt8 := if n = 0 then [48] else (textN neg n).reverse.map UInt8.ofNat
def textB (neg : Bool) (n : Nat) : ByteArray := ⟨(textL neg n).toArray⟩
end Go.Proofs.Ytdfklcmiagmgaaa
