/- Plain: words that are set one by one; a product word by word. -/
import Derived.Test.YtdfklcmiagmgaaaWB8
namespace Go.Proofs.Ytdfklcmiagmgaaa
set_option linter.all false
open Go.WideNum
theorem valW_set (B : Nat) : ∀ (t : List Nat) (j z : Nat), j < t.length → valW B (t.set j z) + t.getD j 0 * B ^ j = valW B t + z * B ^ j
  | [], j, z, h => by simp at h
  | x :: t, 0, z, _ => by simp [valW]; omega
  | x :: t, j + 1, z, h => by
    have ih := valW_set B t j z (by simpa using h)
    simp only [List.set_cons_succ, valW, List.getD_cons_succ, Nat.pow_succ]
    have e : B * valW B (t.set j z) + t.getD j 0 * (B ^ j * B) = B * valW B t + z * (B ^ j * B) := by
      rw [show t.getD j 0 * (B ^ j * B) = B * (t.getD j 0 * B ^ j) by simp only [Nat.mul_assoc, Nat.mul_comm, Nat.mul_left_comm], show z * (B ^ j * B) = B * (z * B ^ j) by simp only [Nat.mul_assoc, Nat.mul_comm, Nat.mul_left_comm], ← Nat.mul_add, ← Nat.mul_add, ih]
    omega
theorem valW_zeros (B : Nat) : ∀ (t : List Nat), (∀ j, t.getD j 0 = 0) → valW B t = 0
  | [], _ => rfl
  | x :: t, h => by
    have h0 : x = 0 := by simpa using h 0
    have h1 := valW_zeros B t (fun j => by simpa using h (j + 1))
    rw [valW, h0, h1]; simp
theorem valW_take_zero (B : Nat) (t : List Nat) (n : Nat) (h : ∀ j, n ≤ j → t.getD j 0 = 0) : valW B (t.take n) = valW B t := by
  have h1 := valW_append B (t.take n) (t.drop n)
  rw [List.take_append_drop] at h1
  rw [h1, valW_zeros B (t.drop n) (fun j => by
    rw [List.getD_eq_getElem?_getD, List.getElem?_drop, ← List.getD_eq_getElem?_getD]; exact h _ (by omega))]
  simp
theorem getD_set (t : List Nat) (j z k : Nat) (h : j < t.length) : (t.set j z).getD k 0 = if k = j then z else t.getD k 0 := by
  rw [List.getD_eq_getElem?_getD, List.getD_eq_getElem?_getD, List.getElem?_set]
  by_cases e : j = k
  · subst e; simp [h]
  · rw [if_neg e, if_neg (fun h => e h.symm)]
/-- The state within a product: row i, word k of the second number, carry c. -/
structure MulSt (B A C i k c : Nat) (t : List Nat) (q L : Nat) : Prop where
  len : t.length = L
  low : ∀ x ∈ t, x < B
  zero : ∀ j, i + q ≤ j → t.getD j 0 = 0
  clt : c < B
  val : valW B t + c * B ^ (i + k) = A % B ^ i * C + dig B A i * B ^ i * (C % B ^ k)
theorem mem_set_lt {B : Nat} {t : List Nat} {j z : Nat} (h : ∀ x ∈ t, x < B) (hz : z < B) : ∀ x ∈ t.set j z, x < B := fun x hx => by
  rcases List.mem_or_eq_of_mem_set hx with h1 | h1
  · exact h x h1
  · rw [h1]; exact hz
theorem getD_lt {B : Nat} {t : List Nat} (hB : 0 < B) (h : ∀ x ∈ t, x < B) (j : Nat) : t.getD j 0 < B := by
  rw [List.getD_eq_getElem?_getD]
  cases hj : t[j]? with
  | none => simpa using hB
  | some x => simpa using h x (List.mem_of_getElem? hj)
theorem MulSt.step {B A C i k c q L : Nat} {t : List Nat} (hB : 1 < B) (h : MulSt B A C i k c t q L) (hk : k < q) (hL : i + q ≤ L) :
    c + (t.getD (i + k) 0 + dig B A i * dig B C k) < B * B ∧ MulSt B A C i (k + 1) ((c + (t.getD (i + k) 0 + dig B A i * dig B C k)) / B) (t.set (i + k) ((c + (t.getD (i + k) 0 + dig B A i * dig B C k)) % B)) q L := by
  obtain ⟨x, hx⟩ : ∃ x, x = dig B A i := ⟨_, rfl⟩
  obtain ⟨y, hy⟩ : ∃ y, y = dig B C k := ⟨_, rfl⟩
  obtain ⟨v, hv⟩ : ∃ v, v = t.getD (i + k) 0 := ⟨_, rfl⟩
  have hx2 : x < B := by rw [hx]; exact dig_lt (by omega) _ _
  have hy2 : y < B := by rw [hy]; exact dig_lt (by omega) _ _
  have hv2 : v < B := by rw [hv]; exact getD_lt (by omega) h.low _
  have hval := h.val
  have hc := h.clt
  rw [← hx] at hval
  rw [← hx, ← hy, ← hv]
  have hs : c + (v + x * y) < B * B := by
    have h1 : x * y ≤ (B - 1) * (B - 1) := Nat.mul_le_mul (by omega) (by omega)
    obtain ⟨b, rfl⟩ : ∃ b, B = b + 1 := ⟨B - 1, by omega⟩
    rw [Nat.add_sub_cancel] at h1
    have h2 : (b + 1) * (b + 1) = b * b + 2 * b + 1 := by rw [Nat.add_mul, Nat.mul_add]; omega
    omega
  obtain ⟨s, es⟩ : ∃ s, s = c + (v + x * y) := ⟨_, rfl⟩
  rw [← es] at hs ⊢
  refine ⟨hs, ⟨by rw [List.length_set]; exact h.len, mem_set_lt h.low (Nat.mod_lt _ (by omega)), fun j hj => ?_, Nat.div_lt_of_lt_mul hs, ?_⟩⟩
  · rw [getD_set _ _ _ _ (by rw [h.len]; omega), if_neg (by omega)]; exact h.zero j hj
  · have e1 := valW_set B t (i + k) (s % B) (by rw [h.len]; omega)
    rw [← hv] at e1
    have e2 := mod_pow_succ B C k
    rw [← hy] at e2
    rw [← hx, e2, Nat.mul_add, ← Nat.add_assoc (A % B ^ i * C), ← hval]
    have e3 : x * B ^ i * (B ^ k * y) = x * y * B ^ (i + k) := by rw [Nat.pow_add]; simp only [Nat.mul_assoc, Nat.mul_comm, Nat.mul_left_comm]
    rw [e3, show i + (k + 1) = (i + k) + 1 by omega, Nat.pow_succ]
    have e4 : s / B * (B ^ (i + k) * B) + s % B * B ^ (i + k) = s * B ^ (i + k) := by
      rw [Nat.mul_comm (B ^ (i + k)), ← Nat.mul_assoc, ← Nat.add_mul, Nat.mul_comm (s / B), Nat.div_add_mod]
    have e5 : s * B ^ (i + k) = c * B ^ (i + k) + v * B ^ (i + k) + x * y * B ^ (i + k) := by rw [es, Nat.add_mul, Nat.add_mul]; omega
    omega
/-- A row is done: its carry is laid. -/
theorem MulSt.row {B A C i c q L : Nat} {t : List Nat} (hB : 1 < B) (h : MulSt B A C i q c t q L) (hL : i + q < L) (hC : C < B ^ q) : MulSt B A C (i + 1) 0 0 (t.set (i + q) c) q L := by
  refine ⟨by rw [List.length_set]; exact h.len, mem_set_lt h.low h.clt, fun j hj => ?_, by omega, ?_⟩
  · rw [getD_set _ _ _ _ (by rw [h.len]; omega), if_neg (by omega)]; exact h.zero j (by omega)
  · have e1 := valW_set B t (i + q) c (by rw [h.len]; omega)
    rw [h.zero (i + q) (Nat.le_refl _)] at e1
    have hv := h.val
    rw [Nat.mod_eq_of_lt hC] at hv
    rw [mod_pow_succ, Nat.pow_zero, Nat.mod_one, Nat.mul_zero, Nat.add_mul, Nat.mul_comm (B ^ i)]
    omega
theorem MulSt.start {B A C q L : Nat} {t : List Nat} (hB : 1 < B) (ht : t = List.replicate L 0) : MulSt B A C 0 0 0 t q L := by
  subst ht
  refine ⟨by simp, fun x hx => by have := List.eq_of_mem_replicate hx; omega, fun j _ => ?_, by omega, ?_⟩
  · rw [List.getD_eq_getElem?_getD]
    cases hj : (List.replicate L 0)[j]? with
    | none => rfl
    | some x => have := List.eq_of_mem_replicate (List.mem_of_getElem? hj); simpa using this
  · rw [valW_zeros B _ (fun j => by
      rw [List.getD_eq_getElem?_getD]
      cases hj : (List.replicate L 0)[j]? with
      | none => rfl
      | some x => have := List.eq_of_mem_replicate (List.mem_of_getElem? hj); simpa using this)]
    simp [Nat.mod_one]
/-- The start of a row. -/
theorem MulSt.done {B A C i q L : Nat} {t : List Nat} (h : MulSt B A C i 0 0 t q L) (hA : A < B ^ i) : valW B (t.take (i + q)) = A * C := by
  rw [valW_take_zero B t _ h.zero]
  have := h.val
  rw [Nat.mod_eq_of_lt hA, Nat.pow_zero, Nat.mod_one] at this
  omega
end Go.Proofs.Ytdfklcmiagmgaaa
