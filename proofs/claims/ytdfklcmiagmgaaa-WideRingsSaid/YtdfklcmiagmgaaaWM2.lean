/- Plain: numbers in words: what is compared from the top; what has no zeros at the end. -/
import Derived.Test.YtdfklcmiagmgaaaWA4
namespace Go.Proofs.Ytdfklcmiagmgaaa
set_option linter.all false
open Go.WideNum
theorem valW_take (B : Nat) (l : List Nat) (k : Nat) (hk : k < l.length) : valW B (l.take (k + 1)) = valW B (l.take k) + B ^ k * l.getD k 0 := by
  have h : l.take (k + 1) = l.take k ++ [l.getD k 0] := by
    rw [List.take_add_one, List.getD_eq_getElem?_getD, List.getElem?_eq_getElem hk]; rfl
  rw [h, valW_append, List.length_take, Nat.min_eq_left (by omega)]
  simp [valW]
theorem cmpTo_val (B : Nat) (hB : 1 < B) (l m : List Nat) (hl : ∀ x ∈ l, x < B) (hm : ∀ x ∈ m, x < B) : ∀ k, k ≤ l.length → k ≤ m.length →
    cmpTo l m k = if valW B (l.take k) < valW B (m.take k) then -1 else if valW B (m.take k) < valW B (l.take k) then 1 else 0 := by
  intro k
  induction k with
  | zero => intro _ _; simp [cmpTo, valW]
  | succ k ih =>
    intro h1 h2
    have e1 := valW_take B l k (by omega)
    have e2 := valW_take B m k (by omega)
    have b1 := valW_lt (B := B) (by omega) (l.take k) (fun x hx => hl x (List.mem_of_mem_take hx))
    have b2 := valW_lt (B := B) (by omega) (m.take k) (fun x hx => hm x (List.mem_of_mem_take hx))
    rw [List.length_take, Nat.min_eq_left (by omega)] at b1 b2
    rw [cmpTo, ih (by omega) (by omega), e1, e2]
    generalize valW B (l.take k) = a at *
    generalize valW B (m.take k) = b at *
    clear e1 e2 ih
    obtain ⟨x, hx⟩ : ∃ x, x = l.getD k 0 := ⟨_, rfl⟩
    obtain ⟨y, hy⟩ : ∃ y, y = m.getD k 0 := ⟨_, rfl⟩
    rw [← hx, ← hy]
    clear hx hy hl hm
    generalize B ^ k = P at *
    rcases Nat.lt_trichotomy x y with h | h | h
    · have h3 : P * (x + 1) ≤ P * y := Nat.mul_le_mul_left _ h
      rw [Nat.mul_add, Nat.mul_one] at h3
      generalize P * x = U at *
      generalize P * y = V at *
      rw [if_pos h, if_pos (by omega)]
    · subst h
      rw [if_neg (by omega), if_neg (by omega)]
      by_cases h1 : a < b
      · rw [if_pos h1, if_pos (Nat.add_lt_add_right h1 _)]
      · rw [if_neg h1, if_neg (fun h => h1 (Nat.lt_of_add_lt_add_right h))]
        by_cases h2 : b < a
        · rw [if_pos h2, if_pos (Nat.add_lt_add_right h2 _)]
        · rw [if_neg h2, if_neg (fun h => h2 (Nat.lt_of_add_lt_add_right h))]
    · have h3 : P * (y + 1) ≤ P * x := Nat.mul_le_mul_left _ h
      rw [Nat.mul_add, Nat.mul_one] at h3
      generalize P * x = U at *
      generalize P * y = V at *
      rw [if_neg (by omega), if_pos h, if_neg (by omega), if_pos (by omega)]
theorem trimL_val (B : Nat) (l : List Nat) : valW B (trimL l) = valW B l := by
  have : ∀ r : List Nat, valW B (trimL r.reverse) = valW B r.reverse := by
    intro r
    induction r with
    | nil => rfl
    | cons x r ih =>
      rw [List.reverse_cons]
      by_cases hx : x = 0
      · subst hx
        rw [trimL_zero, ih, valW_append]
        simp [valW]
      · rw [trimL_snoc _ _ hx]
  have := this l.reverse
  rwa [List.reverse_reverse] at this
end Go.Proofs.Ytdfklcmiagmgaaa
