/- Plain: digits of a number to a base; carries of sums and of multiples; quotients from the top. -/
import Derived.Test.YtdfklcmiagmgaaaWM3
namespace Go.Proofs.Ytdfklcmiagmgaaa
set_option linter.all false
open Go.WideNum
def dig (B n i : Nat) : Nat := n / B ^ i % B
theorem dig_lt {B : Nat} (hB : 0 < B) (n i : Nat) : dig B n i < B := Nat.mod_lt _ hB
theorem dig_succ (B n i : Nat) : dig B n (i + 1) = dig B (n / B) i := by unfold dig; rw [Nat.pow_succ, Nat.mul_comm, Nat.div_div_eq_div_mul]
theorem dig_zero (B n : Nat) : dig B n 0 = n % B := by unfold dig; simp
theorem dig_high {B : Nat} (hB : 1 < B) (n i : Nat) (h : n < B ^ i) : dig B n i = 0 := by unfold dig; rw [Nat.div_eq_of_lt h, Nat.zero_mod]
theorem wordsOf_get {B : Nat} (hB : 1 < B) : ∀ (f n i : Nat), n ≤ f → (wordsOf B f n).getD i 0 = dig B n i := by
  intro f
  induction f with
  | zero => intro n i h; have : n = 0 := by omega
            subst this; simp [wordsOf, dig]
  | succ f ih =>
    intro n i h
    rw [wordsOf]
    split
    · rename_i h0; subst h0; simp [dig]
    · have hd : n / B < n := Nat.div_lt_self (by omega) hB
      cases i with
      | zero => simp [dig_zero]
      | succ i => rw [dig_succ, ← ih (n / B) i (by omega)]; simp
theorem words_get {B : Nat} (hB : 1 < B) (n i : Nat) : (words B n).getD i 0 = dig B n i := wordsOf_get hB n n i (Nat.le_refl _)
theorem words_getE {B : Nat} (hB : 1 < B) (n i : Nat) (h : i < (words B n).length) : (words B n)[i]? = some (dig B n i) := by
  rw [← words_get hB, List.getD_eq_getElem?_getD, List.getElem?_eq_getElem h]; rfl
theorem words_vlt {B : Nat} (hB : 1 < B) (n : Nat) : n < B ^ (words B n).length := by
  have h := valW_lt (B := B) (by omega) (words B n) (words_lt (by omega) n n)
  rwa [show valW B (words B n) = n from val_words hB n n (Nat.le_refl _)] at h
theorem words_length {B : Nat} (hB : 1 < B) (n k : Nat) (h : n < B ^ k) : (words B n).length ≤ k := wordsOf_length hB n n k h
theorem words_lenlt {B : Nat} (hB : 1 < B) (n k : Nat) (h : B ^ k ≤ n) : k < (words B n).length := by
  rcases Nat.lt_or_ge k (words B n).length with h1 | h1
  · exact h1
  · have h2 := words_vlt hB n
    have h3 := Nat.pow_le_pow_right (show 0 < B by omega) h1
    omega
theorem words_zero (B : Nat) : words B 0 = [] := rfl
theorem words_len0 {B : Nat} (hB : 1 < B) (n : Nat) : (words B n).length = 0 ↔ n = 0 := by
  constructor
  · intro h
    have := words_vlt hB n
    rw [h] at this; simpa using this
  · rintro rfl; rfl
theorem mod_pow_succ (B n k : Nat) : n % B ^ (k + 1) = n % B ^ k + B ^ k * dig B n k := by unfold dig; rw [Nat.mod_pow_succ]
theorem valW_range (B n : Nat) : ∀ m, valW B ((List.range m).map (dig B n)) = n % B ^ m := by
  intro m
  induction m with
  | zero => simp [valW, Nat.mod_one]
  | succ m ih => rw [List.range_succ, List.map_append, valW_append, ih, mod_pow_succ]; simp [valW]
theorem trim_range {B : Nat} (hB : 1 < B) (n m : Nat) (h : n < B ^ m) : trimL ((List.range m).map (dig B n)) = words B n := by
  rw [trimL_words B hB _ (fun x hx => by obtain ⟨i, _, rfl⟩ := List.mem_map.1 hx; exact dig_lt (by omega) _ _), valW_range, Nat.mod_eq_of_lt h]
/-- The carry into the word k of a sum. -/
def carry (B A C k : Nat) : Nat := (A % B ^ k + C % B ^ k) / B ^ k
theorem carry_zero (B A C : Nat) : carry B A C 0 = 0 := by simp [carry, Nat.mod_one]
theorem carry_le {B : Nat} (hB : 0 < B) (A C k : Nat) : carry B A C k ≤ 1 := by
  unfold carry
  have hp : 0 < B ^ k := Nat.pow_pos hB
  have h1 := Nat.mod_lt A hp
  have h2 := Nat.mod_lt C hp
  have : (A % B ^ k + C % B ^ k) / B ^ k < 2 := Nat.div_lt_of_lt_mul (by omega)
  omega
theorem add_step {B : Nat} (hB : 0 < B) (A C k : Nat) : dig B A k + dig B C k + carry B A C k = dig B (A + C) k + B * carry B A C (k + 1) := by
  have hp : 0 < B ^ k := Nat.pow_pos hB
  have e1 : carry B A C (k + 1) = (dig B A k + dig B C k + carry B A C k) / B := by
    unfold carry
    rw [mod_pow_succ, mod_pow_succ, Nat.pow_succ, ← Nat.div_div_eq_div_mul]
    congr 1
    rw [show A % B ^ k + B ^ k * dig B A k + (C % B ^ k + B ^ k * dig B C k) = (A % B ^ k + C % B ^ k) + B ^ k * (dig B A k + dig B C k) by rw [Nat.mul_add]; omega, Nat.add_mul_div_left _ _ hp]
    omega
  have e2 : dig B (A + C) k = (dig B A k + dig B C k + carry B A C k) % B := by
    have h : (A + C) / B ^ k = A / B ^ k + C / B ^ k + carry B A C k := by
      unfold carry
      have hA := Nat.mod_add_div A (B ^ k)
      have hC := Nat.mod_add_div C (B ^ k)
      have : A + C = (A % B ^ k + C % B ^ k) + B ^ k * (A / B ^ k + C / B ^ k) := by rw [Nat.mul_add]; omega
      conv => lhs; rw [this, Nat.add_mul_div_left _ _ hp]
      omega
    show (A + C) / B ^ k % B = _
    rw [h]
    unfold dig
    rw [Nat.add_mod (A / B ^ k % B + C / B ^ k % B), Nat.add_mod (A / B ^ k % B), Nat.mod_mod, Nat.mod_mod, ← Nat.add_mod (A / B ^ k), ← Nat.add_mod]
  rw [e1, e2]
  exact (Nat.mod_add_div _ _).symm
theorem carry_last {B : Nat} (hB : 1 < B) (A C k : Nat) (hA : A < B ^ k) (hC : C < B ^ k) : carry B A C k = dig B (A + C) k := by
  have h := carry_le (B := B) (by omega) A C k
  unfold dig
  unfold carry at h ⊢
  rw [Nat.mod_eq_of_lt hA, Nat.mod_eq_of_lt hC] at *
  rw [Nat.mod_eq_of_lt]; omega
/-- The carry into the word k of a multiple. -/
def carryM (B A M k : Nat) : Nat := A % B ^ k * M / B ^ k
theorem carryM_zero (B A M : Nat) : carryM B A M 0 = 0 := by simp [carryM, Nat.mod_one]
theorem carryM_lt {B : Nat} (hB : 0 < B) (A M k : Nat) (hM : 0 < M) : carryM B A M k < M := by
  unfold carryM
  have hp : 0 < B ^ k := Nat.pow_pos hB
  refine Nat.div_lt_of_lt_mul ?_
  exact (Nat.mul_lt_mul_right hM).2 (Nat.mod_lt A hp)
theorem mul_step {B : Nat} (hB : 0 < B) (A M k : Nat) : dig B A k * M + carryM B A M k = dig B (A * M) k + B * carryM B A M (k + 1) := by
  have hp : 0 < B ^ k := Nat.pow_pos hB
  have e1 : carryM B A M (k + 1) = (dig B A k * M + carryM B A M k) / B := by
    unfold carryM
    rw [mod_pow_succ, Nat.pow_succ, ← Nat.div_div_eq_div_mul]
    congr 1
    rw [Nat.add_mul, Nat.mul_assoc, Nat.add_mul_div_left _ _ hp]
    omega
  have e2 : dig B (A * M) k = (dig B A k * M + carryM B A M k) % B := by
    have h : A * M / B ^ k = A / B ^ k * M + carryM B A M k := by
      unfold carryM
      have hA := Nat.mod_add_div A (B ^ k)
      have : A * M = A % B ^ k * M + B ^ k * (A / B ^ k * M) := by rw [← Nat.mul_assoc, ← Nat.add_mul, hA]
      conv => lhs; rw [this, Nat.add_mul_div_left _ _ hp]
      omega
    show A * M / B ^ k % B = _
    rw [h]
    unfold dig
    rw [Nat.add_mod, Nat.add_mod (A / B ^ k % B * M), Nat.mul_mod (A / B ^ k % B), Nat.mod_mod, ← Nat.mul_mod]
  rw [e1, e2]
  exact (Nat.mod_add_div _ _).symm
theorem div_pow_succ (B A i : Nat) : A / B ^ i = dig B A i + B * (A / B ^ (i + 1)) := by
  unfold dig; rw [Nat.pow_succ, ← Nat.div_div_eq_div_mul]; exact (Nat.mod_add_div _ _).symm
/-- A step of a division by a word, from the top. -/
theorem short_step {B n : Nat} (hB : 0 < B) (hn : 0 < n) (A i : Nat) :
    (A / B ^ (i + 1) % n * B + dig B A i) / n = dig B (A / n) i ∧ (A / B ^ (i + 1) % n * B + dig B A i) % n = A / B ^ i % n := by
  have h := div_pow_succ B A i
  obtain ⟨P, hP⟩ : ∃ P, P = A / B ^ (i + 1) := ⟨_, rfl⟩
  have hd := dig_lt hB A i
  have hdd : dig B (A / n) i = A / B ^ i / n % B := by
    unfold dig; rw [Nat.div_div_eq_div_mul, Nat.mul_comm, ← Nat.div_div_eq_div_mul]
  rw [hdd]
  rw [← hP] at h ⊢
  obtain ⟨x, hx⟩ : ∃ x, x = dig B A i := ⟨_, rfl⟩
  rw [← hx] at h hd ⊢
  have hPm := Nat.mod_add_div P n
  have hr := Nat.mod_lt P hn
  have e : A / B ^ i = (P % n * B + x) + n * (P / n * B) := by
    rw [h, ← Nat.mul_assoc]
    conv => lhs; rw [← hPm]
    rw [Nat.mul_add, Nat.mul_comm B (P % n), Nat.mul_comm B (n * _)]; omega
  rw [e]
  constructor
  · rw [Nat.add_mul_div_left _ _ hn, Nat.add_mul_mod_self_right]
    have : (P % n * B + x) / n < B := by
      refine Nat.div_lt_of_lt_mul ?_
      have : (P % n + 1) * B ≤ n * B := Nat.mul_le_mul_right B hr
      rw [Nat.add_mul] at this
      omega
    rw [Nat.mod_eq_of_lt this]
  · rw [Nat.add_mul_mod_self_left]
end Go.Proofs.Ytdfklcmiagmgaaa
