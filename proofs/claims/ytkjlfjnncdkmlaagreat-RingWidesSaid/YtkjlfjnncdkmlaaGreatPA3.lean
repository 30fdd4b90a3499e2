/- Helpers and walks, in one text. -/
import Derived.Test.YtkjlfjnncdkmlaaGreatPA2
set_option linter.all false
set_option maxRecDepth 100000
set_option maxHeartbeats 40000000
/- Plain: long division by words: a guess of a word of the quotient; a multiple taken away word by word; the divisor added again. -/
namespace Go.Proofs.YtkjlfjnncdkmlaaGreat
section
open Go.WideNum
theorem guess_ge {B V U n v1 top : Nat} (hv1 : v1 * B ^ (n + 1) ≤ V) (htop : top = U / B ^ (n + 1)) (hB : 0 < B) (h1 : 0 < v1) : U / V ≤ top / v1 := by
 refine (Nat.le_div_iff_mul_le h1).2 ?_
 rw [htop]
 refine (Nat.le_div_iff_mul_le (Nat.pow_pos hB)).2 ?_
 rw [Nat.mul_assoc]
 exact Nat.le_trans (Nat.mul_le_mul_left _ hv1) (Nat.div_mul_le_self U V)
theorem guess_gt {B V U n v1 v2 top u2 g : Nat} (hB : 0 < B) (hV : V / B ^ n = v1 * B + v2) (hU : U / B ^ n = top * B + u2) (hg : g * v1 ≤ top) (ht : (top - g * v1) * B + u2 < g * v2) : U / V < g := by
 rcases Nat.lt_or_ge (U / V) g with h | h
 ·exact h
 ·exfalso
  have hp : 0 < B ^ n := Nat.pow_pos hB
  have h1 : g * (V / B ^ n) ≤ U / B ^ n := by
   refine (Nat.le_div_iff_mul_le hp).2 ?_
   rw [Nat.mul_assoc]
   exact Nat.le_trans (Nat.mul_le_mul_left g (Nat.div_mul_le_self V _)) (Nat.le_trans (Nat.mul_le_mul_right V h) (Nat.div_mul_le_self U V))
  rw [hV, hU, Nat.mul_add, ← Nat.mul_assoc] at h1
  have h2 : (top - g * v1) * B + g * v1 * B = top * B := by rw [← Nat.add_mul]; congr 1; omega
  omega
theorem guess_le {B V U n v1 v2 top u2 g : Nat} (hB : 0 < B) (hV0 : 0 < V) (hV : V / B ^ n = v1 * B + v2) (hU : U / B ^ n = top * B + u2) (h1 : 0 < v1) (hgB : g < B) (hg : g * v1 ≤ top) (ht : g * v2 ≤ (top - g * v1) * B + u2) : g ≤ U / V + 1 := by
 rcases Nat.lt_or_ge (U / V + 1) g with h | h
 ·exfalso
  have h0 : 0 < g := Nat.lt_of_le_of_lt (Nat.zero_le _) h
  obtain ⟨f, rfl⟩ : ∃ f, g = f + 1 := ⟨g - 1, by omega⟩
  have hp : 0 < B ^ n := Nat.pow_pos hB
  have h2 : (f + 1) * (V / B ^ n) ≤ U / B ^ n := by
   rw [hV, hU, Nat.mul_add, ← Nat.mul_assoc]
   have h2 : (top - (f + 1) * v1) * B + (f + 1) * v1 * B = top * B := by rw [← Nat.add_mul]; congr 1; omega
   omega
  have h3 : U < (U / V + 1) * V := by
   have h4 := Nat.mod_add_div U V
   have h5 := Nat.mod_lt U hV0
   rw [Nat.add_mul, Nat.one_mul, Nat.mul_comm]
   omega
  have h4 : (U / V + 1) * V ≤ f * V := Nat.mul_le_mul_right V (by omega)
  have h5 : V < (V / B ^ n + 1) * B ^ n := by
   have h4 := Nat.mod_add_div V (B ^ n)
   have h5 := Nat.mod_lt V hp
   rw [Nat.add_mul, Nat.one_mul, Nat.mul_comm]
   omega
  have h6 : U / B ^ n * B ^ n ≤ U := Nat.div_mul_le_self _ _
  obtain ⟨D, hD⟩ : ∃ D, D = V / B ^ n := ⟨_, rfl⟩
  obtain ⟨P, hP⟩ : ∃ P, P = B ^ n := ⟨_, rfl⟩
  rw [← hD] at h2 h5 hV
  rw [← hP] at h2 h5 h6 hp
  have hDB : B ≤ D := by
   rw [hV]
   have : 1 * B ≤ v1 * B := Nat.mul_le_mul_right B h1
   omega
  have h7 : f * V ≤ f * ((D + 1) * P) := Nat.mul_le_mul_left f (Nat.le_of_lt h5)
  have h8 : (f + 1) * D * P ≤ U / P * P := Nat.mul_le_mul_right P h2
  have h9 : (f + 1) * D * P < f * ((D + 1) * P) := by omega
  rw [← Nat.mul_assoc] at h9
  have h10 := Nat.lt_of_mul_lt_mul_right h9
  rw [Nat.add_mul, Nat.mul_add] at h10
  omega
 ·exact h
theorem guess_rest {B v1 v2 top u2 g : Nat} (h1 : 0 < v1) (hv2 : v2 < B) (htop : top < (v1 + 1) * B) (hg : g * v1 ≤ top) (hr : B ≤ top - g * v1) : g < B ∧ g * v2 ≤ (top - g * v1) * B + u2 := by
 have hgB : g < B := by
  rcases Nat.lt_or_ge g B with h | h
  ·exact h
  ·exfalso
   have h2 : B * v1 ≤ g * v1 := Nat.mul_le_mul_right v1 h
   rw [Nat.add_mul, Nat.one_mul, Nat.mul_comm v1] at htop
   omega
 refine ⟨hgB, ?_⟩
 have h2 : g * v2 ≤ B * B := Nat.mul_le_mul (Nat.le_of_lt hgB) (Nat.le_of_lt hv2)
 have h3 : B * B ≤ (top - g * v1) * B := Nat.mul_le_mul_right B hr
 omega
def setDig (B T k y : Nat) : Nat := T - dig B T k * B ^ k + y * B ^ k
theorem dig_part (B T k : Nat) : dig B T k * B ^ k ≤ T := by
 have h := Nat.mod_mul_right_div_self T (B ^ k) B
 have h2 : dig B T k = T % (B ^ k * B) / B ^ k := h.symm
 rw [h2]
 exact Nat.le_trans (Nat.div_mul_le_self _ _) (Nat.mod_le _ _)
theorem setDig_eq (B T k y : Nat) : setDig B T k y + dig B T k * B ^ k = T + y * B ^ k := by
 have := dig_part B T k
 unfold setDig
 omega
theorem split3 {B : Nat} (hB : 0 < B) (T k : Nat) : T = T % B ^ k + dig B T k * B ^ k + T / B ^ (k + 1) * B ^ (k + 1) := by
 have h1 := Nat.mod_add_div T (B ^ (k + 1))
 have h2 := mod_pow_succ B T k
 rw [h2, Nat.mul_comm (B ^ k), Nat.mul_comm (B ^ (k + 1))] at h1
 exact h1.symm
theorem setDig_split {B : Nat} (hB : 0 < B) (T k y : Nat) : setDig B T k y = T % B ^ k + y * B ^ k + T / B ^ (k + 1) * B ^ (k + 1) := by
 have h1 := split3 hB T k
 have h2 := setDig_eq B T k y
 omega
theorem three_low {B : Nat} (hB : 0 < B) (l y h k : Nat) (hl : l < B ^ k) (hy : y < B) : (l + y * B ^ k + h * B ^ (k + 1)) % B ^ k = l ∧ (l + y * B ^ k + h * B ^ (k + 1)) / B ^ k = y + h * B := by
 have hp : 0 < B ^ k := Nat.pow_pos hB
 have e : l + y * B ^ k + h * B ^ (k + 1) = l + B ^ k * (y + h * B) := by
  have e1 : h * (B ^ k * B) = B ^ k * (h * B) := by rw [← Nat.mul_assoc, Nat.mul_comm h (B ^ k), Nat.mul_assoc]
  rw [Nat.pow_succ, Nat.mul_add, e1, Nat.mul_comm y]
  omega
 rw [e]
 exact ⟨by rw [Nat.add_mul_mod_self_left, Nat.mod_eq_of_lt hl], by rw [Nat.add_mul_div_left _ _ hp, Nat.div_eq_of_lt hl, Nat.zero_add]⟩
theorem dig_setDig {B : Nat} (hB : 0 < B) (T k y : Nat) (hy : y < B) (i : Nat) : dig B (setDig B T k y) i = if i = k then y else dig B T i := by
 have hp : 0 < B ^ k := Nat.pow_pos hB
 have hl := Nat.mod_lt T hp
 have hd := dig_lt hB T k
 have e1 := setDig_split hB T k y
 have e2 := split3 hB T k
 obtain ⟨a1, a2⟩ := three_low hB (T % B ^ k) y (T / B ^ (k + 1)) k hl hy
 obtain ⟨b1, b2⟩ := three_low hB (T % B ^ k) (dig B T k) (T / B ^ (k + 1)) k hl hd
 rw [← e1] at a1 a2
 rw [← e2] at b2
 rcases Nat.lt_trichotomy i k with h | h | h
 ·rw [if_neg (by omega)]
  have e3 : ∀ Z, dig B Z i = dig B (Z % B ^ k) i := by
   intro Z
   unfold dig
   obtain ⟨d, rfl⟩ : ∃ d, k = i + 1 + d := ⟨k - i - 1, by omega⟩
   rw [Nat.pow_add, Nat.pow_succ, Nat.mul_assoc, Nat.mod_mul_right_div_self, Nat.mod_mul_right_mod]
  rw [e3, e3 T, a1]
 ·subst h
  rw [if_pos rfl]
  unfold dig
  rw [a2, Nat.add_mul_mod_self_right, Nat.mod_eq_of_lt hy]
 ·rw [if_neg (by omega)]
  obtain ⟨d, rfl⟩ : ∃ d, i = k + 1 + d := ⟨i - k - 1, by omega⟩
  have e3 : ∀ Z, dig B Z (k + 1 + d) = Z / B ^ k / B / B ^ d % B := by
   intro Z
   unfold dig
   rw [Nat.pow_add, Nat.pow_succ, Nat.div_div_eq_div_mul, Nat.div_div_eq_div_mul, Nat.mul_assoc]
  rw [e3, e3 T, a2, b2, Nat.add_mul_div_right _ _ hB, Nat.add_mul_div_right _ _ hB, Nat.div_eq_of_lt hy, Nat.div_eq_of_lt hd]
theorem lt_of_digs {B : Nat} (hB : 1 < B) (T K : Nat) (h : ∀ k, K ≤ k → dig B T k = 0) : T < B ^ K := by
 have h1 := words_length (B := B) hB T T (Nat.lt_pow_self hB)
 rcases Nat.lt_or_ge T (B ^ K) with h2 | h2
 ·exact h2
 ·exfalso
  have h3 := words_lenlt hB T K h2
  obtain ⟨m, hm⟩ : ∃ m, (words B T).length = m + 1 := ⟨(words B T).length - 1, by omega⟩
  have h4 := words_trimmed hB T T (Nat.le_refl _)
  have h5 : (words B T).getLast? = some (dig B T m) := by
   rw [List.getLast?_eq_getElem?, hm, Nat.add_sub_cancel]
   exact words_getE hB T m (by omega)
  exact h4 _ h5 (h m (by omega))
structure SubSt (B V X g j i T b c : Nat) : Prop where
 eq : T + g * (V % B ^ i) * B ^ j = X + (b + c) * B ^ (i + j)
 up : ∀ k, i + j ≤ k → dig B T k = dig B X k
 hb : b ≤ 1
 hc : c < B
theorem SubSt.start {B V X g j : Nat} (hB : 1 < B) : SubSt B V X g j 0 X 0 0 := ⟨by simp [Nat.mod_one], fun _ _ => rfl, by omega, by omega⟩
theorem SubSt.step {B V X g j i T b c lo hi y b' : Nat} (hB : 1 < B) (h : SubSt B V X g j i T b c) (hg : g < B) (hp : g * dig B V i + c = hi * B + lo) (hhi : hi < B) (hy : y < B) (hb' : b' ≤ 1) (hst : y + lo + b = dig B X (i + j) + b' * B) :
  SubSt B V X g j (i + 1) (setDig B T (i + j) y) b' hi := by
 have e1 := setDig_eq B T (i + j) y
 have hu := h.up (i + j) (Nat.le_refl _)
 rw [hu] at e1
 refine ⟨?_, fun k hk => ?_, hb', hhi⟩
 ·have e2 := h.eq
  rw [mod_pow_succ, Nat.mul_add, Nat.add_mul, show i + 1 + j = (i + j) + 1 by omega, Nat.pow_succ]
  obtain ⟨P, hP⟩ : ∃ P, P = B ^ (i + j) := ⟨_, rfl⟩
  have e3 : g * (B ^ i * dig B V i) * B ^ j = g * dig B V i * P := by
   rw [hP, Nat.pow_add]; simp only [Nat.mul_assoc, Nat.mul_comm, Nat.mul_left_comm]
  rw [e3]
  rw [← hP] at e1 e2 ⊢
  generalize g * (V % B ^ i) * B ^ j = F at *
  generalize dig B X (i + j) = x at *
  obtain ⟨q, hq⟩ : ∃ q, q = g * dig B V i := ⟨_, rfl⟩
  rw [← hq] at hp ⊢
  have e4 : (y + lo + b) * P = (x + b' * B) * P := by rw [hst]
  have e5 : (q + c) * P = (hi * B + lo) * P := by rw [hp]
  simp only [Nat.add_mul] at e1 e2 e4 e5 ⊢
  rw [show b' * (P * B) = b' * B * P by rw [Nat.mul_assoc, Nat.mul_comm P], show hi * (P * B) = hi * B * P by rw [Nat.mul_assoc, Nat.mul_comm P]]
  omega
 ·rw [dig_setDig (by omega) T (i + j) y hy, if_neg (by omega)]
  exact h.up k (by omega)
theorem SubSt.last {B V X g j n T b c y b' : Nat} (hB : 1 < B) (h : SubSt B V X g j n T b c) (hV : V < B ^ n) (hV0 : 0 < V) (hX : X < V * B ^ (j + 1)) (hq : X / B ^ j / V ≤ g) (hq2 : g ≤ X / B ^ j / V + 1) (hy : y < B) (hb' : b' ≤ 1) (hst : y + b + c = dig B X (n + j) + b' * B) :
  (b' = 0 ∧ g = X / B ^ j / V ∧ setDig B T (n + j) y = X - X / B ^ j / V * V * B ^ j) ∨
  (b' = 1 ∧ g = X / B ^ j / V + 1 ∧ setDig B T (n + j) y + g * V * B ^ j = X + B ^ (n + j + 1) ∧ (∀ k, n + j + 1 ≤ k → dig B (setDig B T (n + j) y) k = 0)) := by
 have e1 := setDig_eq B T (n + j) y
 rw [h.up (n + j) (Nat.le_refl _)] at e1
 have e2 := h.eq
 rw [Nat.mod_eq_of_lt hV] at e2
 have hXlt : X < B ^ (n + j + 1) := by
  refine Nat.lt_of_lt_of_le hX ?_
  rw [show n + j + 1 = n + (j + 1) by omega, Nat.pow_add B n (j + 1)]
  exact Nat.mul_le_mul_right _ (Nat.le_of_lt hV)
 have hup : ∀ k, n + j + 1 ≤ k → dig B (setDig B T (n + j) y) k = 0 := fun k hk => by
  rw [dig_setDig (by omega) T (n + j) y hy, if_neg (by omega), h.up k (by omega)]
  exact dig_high hB X k (Nat.lt_of_lt_of_le hXlt (Nat.pow_le_pow_right (by omega) hk))
 have hTlt := lt_of_digs hB _ _ hup
 have e3 : setDig B T (n + j) y + g * V * B ^ j = X + b' * B ^ (n + j + 1) := by
  rw [Nat.pow_succ]
  generalize B ^ (n + j) = P at *
  generalize dig B X (n + j) = x at *
  generalize g * V * B ^ j = F at *
  have e4 : (y + b + c) * P = (x + b' * B) * P := by rw [hst]
  simp only [Nat.add_mul] at e1 e2 e4 ⊢
  rw [show b' * (P * B) = b' * B * P by rw [Nat.mul_assoc, Nat.mul_comm P]]
  omega
 have hj : 0 < B ^ j := Nat.pow_pos (by omega)
 have hqX : X / B ^ j / V * V * B ^ j ≤ X := Nat.le_trans (Nat.mul_le_mul_right _ (Nat.div_mul_le_self _ _)) (Nat.div_mul_le_self _ _)
 have hqX2 : X < (X / B ^ j / V + 1) * V * B ^ j := by
  have h1 := Nat.mod_add_div (X / B ^ j) V
  have h2 := Nat.mod_lt (X / B ^ j) hV0
  have h3 : X / B ^ j + 1 ≤ (X / B ^ j / V + 1) * V := by rw [Nat.add_mul, Nat.one_mul, Nat.mul_comm]; omega
  have h4 : (X / B ^ j + 1) * B ^ j ≤ (X / B ^ j / V + 1) * V * B ^ j := Nat.mul_le_mul_right _ h3
  have h5 := Nat.mod_add_div X (B ^ j)
  have h6 := Nat.mod_lt X hj
  rw [Nat.add_mul, Nat.one_mul, Nat.mul_comm (X / B ^ j)] at h4
  omega
 obtain ⟨q, hqq⟩ : ∃ q, q = X / B ^ j / V := ⟨_, rfl⟩
 rw [← hqq] at hq hq2 hqX hqX2 ⊢
 rcases (show b' = 0 ∨ b' = 1 by omega) with rfl | rfl
 ·left
  have hgq : g = q := by
   rcases (show g = q ∨ g = q + 1 by omega) with h | h
   ·exact h
   ·rw [h] at e3; omega
  subst hgq
  exact ⟨rfl, rfl, by omega⟩
 ·right
  rw [Nat.one_mul] at e3
  have hgq : g = q + 1 := by
   rcases (show g = q ∨ g = q + 1 by omega) with h | h
   ·rw [h] at e3; omega
   ·exact h
  exact ⟨rfl, hgq, e3, hup⟩
structure AddSt (B V Y j i T c : Nat) : Prop where
 eq : T + c * B ^ (i + j) = Y + V % B ^ i * B ^ j
 up : ∀ k, i + j ≤ k → dig B T k = dig B Y k
 hc : c ≤ 1
theorem AddSt.start {B V Y j : Nat} : AddSt B V Y j 0 Y 0 := ⟨by simp [Nat.mod_one], fun _ _ => rfl, by omega⟩
theorem AddSt.step {B V Y j i T c y c' : Nat} (hB : 1 < B) (h : AddSt B V Y j i T c) (hy : y < B) (hc' : c' ≤ 1) (hst : c + (dig B Y (i + j) + dig B V i) = y + c' * B) : AddSt B V Y j (i + 1) (setDig B T (i + j) y) c' := by
 have e1 := setDig_eq B T (i + j) y
 rw [h.up (i + j) (Nat.le_refl _)] at e1
 refine ⟨?_, fun k hk => ?_, hc'⟩
 ·have e2 := h.eq
  rw [mod_pow_succ, Nat.add_mul, show i + 1 + j = (i + j) + 1 by omega, Nat.pow_succ]
  obtain ⟨P, hP⟩ : ∃ P, P = B ^ (i + j) := ⟨_, rfl⟩
  have e3 : B ^ i * dig B V i * B ^ j = dig B V i * P := by
   rw [hP, Nat.pow_add]; simp only [Nat.mul_assoc, Nat.mul_comm, Nat.mul_left_comm]
  rw [e3]
  rw [← hP] at e1 e2 ⊢
  generalize V % B ^ i * B ^ j = F at *
  generalize dig B Y (i + j) = x at *
  generalize dig B V i = v at *
  have e4 : (c + (x + v)) * P = (y + c' * B) * P := by rw [hst]
  simp only [Nat.add_mul] at e1 e2 e4 ⊢
  rw [show c' * (P * B) = c' * B * P by rw [Nat.mul_assoc, Nat.mul_comm P]]
  omega
 ·rw [dig_setDig (by omega) T (i + j) y hy, if_neg (by omega)]
  exact h.up k (by omega)
theorem AddSt.last {B V Y R j n T c : Nat} (hB : 1 < B) (h : AddSt B V Y j n T c) (hV : V < B ^ n) (hR : R < V * B ^ j) (hY : Y + V * B ^ j = R + B ^ (n + j + 1)) (hup : ∀ k, n + j + 1 ≤ k → dig B Y k = 0) :
  setDig B T (n + j) ((dig B Y (n + j) + c) % B) = R := by
 have e2 := h.eq
 rw [Nat.mod_eq_of_lt hV] at e2
 have hp : 0 < B ^ (n + j) := Nat.pow_pos (by omega)
 have hRlt : R < B ^ (n + j) := by
  refine Nat.lt_of_lt_of_le hR ?_
  rw [Nat.pow_add]
  exact Nat.mul_le_mul_right _ (Nat.le_of_lt hV)
 have hT := split3 (B := B) (by omega) T (n + j)
 have hTlt := lt_of_digs hB T (n + j + 1) (fun k hk => by rw [h.up k (by omega), hup k hk])
 rw [Nat.div_eq_of_lt hTlt, Nat.zero_mul, Nat.add_zero] at hT
 have hl := Nat.mod_lt T hp
 have hx := h.up (n + j) (Nat.le_refl _)
 have hsd := setDig_split (B := B) (by omega) T (n + j) ((dig B Y (n + j) + c) % B)
 rw [Nat.div_eq_of_lt hTlt, Nat.zero_mul, Nat.add_zero] at hsd
 rw [hsd]
 rw [hx] at hT
 obtain ⟨x, ex⟩ : ∃ x, x = dig B Y (n + j) := ⟨_, rfl⟩
 obtain ⟨l, el⟩ : ∃ l, l = T % B ^ (n + j) := ⟨_, rfl⟩
 rw [← ex] at hT ⊢
 rw [← el] at hT hl ⊢
 rw [Nat.pow_succ] at hY
 generalize B ^ (n + j) = P at *
 have h1 : l + (x + c) * P = R + B * P := by
  rw [Nat.add_mul, Nat.mul_comm B]
  omega
 have h2 : (l + (x + c) * P) / P = (R + B * P) / P := by rw [h1]
 rw [Nat.add_mul_div_right _ _ hp, Nat.add_mul_div_right _ _ hp, Nat.div_eq_of_lt hl, Nat.div_eq_of_lt hRlt] at h2
 have h3 : x + c = B := by omega
 rw [h3] at h1 ⊢
 rw [Nat.mod_self, Nat.zero_mul]
 omega
theorem quot_word {B A V j : Nat} (hB : 0 < B) (hV0 : 0 < V) : A % (V * B ^ (j + 1)) / B ^ j / V = dig B (A / V) j ∧ A % (V * B ^ (j + 1)) - A % (V * B ^ (j + 1)) / B ^ j / V * V * B ^ j = A % (V * B ^ j) := by
 obtain ⟨X, hX⟩ : ∃ X, X = A % (V * B ^ (j + 1)) := ⟨_, rfl⟩
 have h1 : X / B ^ j / V = X / (V * B ^ j) := by rw [Nat.div_div_eq_div_mul, Nat.mul_comm]
 have h2 : V * B ^ (j + 1) = V * B ^ j * B := by rw [Nat.pow_succ, Nat.mul_assoc]
 rw [← hX, h1]
 have h3 : X / (V * B ^ j) = dig B (A / V) j := by
  rw [hX, h2, Nat.mod_mul_right_div_self]
  unfold dig
  rw [Nat.div_div_eq_div_mul]
 refine ⟨h3, ?_⟩
 have h4 : X % (V * B ^ j) = A % (V * B ^ j) := by rw [hX, h2, Nat.mod_mul_right_mod]
 have h5 := Nat.mod_add_div X (V * B ^ j)
 rw [Nat.mul_assoc, ← h4]
 rw [Nat.mul_comm (V * B ^ j)] at h5
 omega
end
/- Walks: a number shifted to the right by less than a word. -/
section
open Go.RowKit Go.Shelf Go.WideNum
theorem right_dig (A s i : Nat) (hs : s < 32) : (dig 4294967296 A i + dig 4294967296 A (i + 1) * 2 ^ 32) / 2 ^ s % 4294967296 = dig 4294967296 (A / 2 ^ s) i := by
 obtain ⟨d, hd⟩ : ∃ d, (4294967296 : Nat) = 2 ^ s * d := ⟨2 ^ (32 - s), by rw [← Nat.pow_add, show s + (32 - s) = 32 by omega]⟩
 have hp : 0 < 2 ^ s := Nat.pow_pos (by omega)
 unfold dig
 rw [Nat.pow_succ, ← Nat.div_div_eq_div_mul A, Nat.div_div_eq_div_mul A (2 ^ s), Nat.mul_comm (2 ^ s), ← Nat.div_div_eq_div_mul A]
 obtain ⟨Y, hY⟩ : ∃ Y, Y = A / 4294967296 ^ i := ⟨_, rfl⟩
 rw [← hY]
 have h1 := Nat.mod_add_div Y 4294967296
 have h2 := Nat.mod_add_div (Y / 4294967296) 4294967296
 obtain ⟨K, hK⟩ : ∃ K, K = Y / 4294967296 / 4294967296 := ⟨_, rfl⟩
 obtain ⟨Z, hZ⟩ : ∃ Z, Z = Y % 4294967296 + Y / 4294967296 % 4294967296 * 2 ^ 32 := ⟨_, rfl⟩
 have h3 : Y = Z + 2 ^ s * (d * 4294967296 * K) := by
  have e : 2 ^ s * (d * 4294967296 * K) = 4294967296 * 4294967296 * K := by
   rw [← Nat.mul_assoc, ← Nat.mul_assoc, ← hd]
  rw [e, hZ, hK]
  omega
 have h4 : Y / 2 ^ s = Z / 2 ^ s + d * 4294967296 * K := by
  rw [h3, Nat.add_mul_div_left _ _ hp]
 rw [h4, show d * 4294967296 * K = 4294967296 * (d * K) by rw [Nat.mul_comm d, Nat.mul_assoc], Nat.add_mul_mod_self_left, ← hZ]
theorem right_any (A s : Nat) (hs : s < 32) (va : Value) (w : World) (hA : World.numR w va A) (hla : (wd A).length ≤ 2000) :
  Calls Tryz.prog 115 #[va, .int .i64 (s : Int)] w (NumRet w (A / 2 ^ s)) := by
 obtain ⟨aa, ca, rfl, hca, hma, hsa⟩ := reads_u32 hA
 clear hA
 have hz0 := words_len0 (B := 4294967296) (by omega) A
 obtain ⟨p, hp⟩ : ∃ n, n = (wd A).length := ⟨_, rfl⟩
 have hva := wd_vlt A
 have hzp : p = 0 ↔ A = 0 := by rw [hp]; exact hz0
 rw [← hp] at hla hca hva ⊢
 have HA : Hid (∀ k, k < p → ∃ b off, aa = some ⟨b, off, none⟩ ∧ b < w.heap.size ∧ w.cell? ⟨b, off + k, none⟩ = some (.int .u32 (dig 4294967296 A k : Int))) := fun k hk => hsa k _ (wd_get _ k (by omega))
 have HHI : Hid (∀ k, p ≤ k → dig 4294967296 A k = 0) := fun k hk => wd_high A k (by omega)
 have HVA := Lib.hid hva
 have HZP := Lib.hid hzp
 clear hp hsa hva hz0 hzp
 obtain ⟨M, hM⟩ : ∃ M, M = A / 2 ^ s := ⟨_, rfl⟩
 rw [← hM]
 have HM := Lib.hid hM
 have HDG : Hid (∀ i, (dig 4294967296 A i + dig 4294967296 A (i + 1) * 2 ^ 32) / 2 ^ s % 4294967296 = dig 4294967296 M i) := fun i => by rw [HM.out]; exact right_dig A s i hs
 clear hM
 obtain ⟨HPOST, hpost⟩ : ∃ R, R = NumRet w M := ⟨_, rfl⟩
 rw [← hpost]
 have HP := Lib.hid hpost
 clear hpost
 have e1 : (s : Int) / 32 = 0 := by omega
 have e2 : (s : Int) % 32 = (s : Int) := by omega
 by_cases hp0 : p = 0
 ·subst hp0
  have hA0 := HZP.out.1 rfl
  subst hA0
  have hM0 : M = 0 := by rw [HM.out]; exact Nat.zero_div _
  subst hM0
  go_enter Tryz.func115, Tryz.ntmps115
  go_wp2
  rw [HP.out]
  exact ⟨_, rfl, World.owns_nil _ _ _ _, Below.refl _ _⟩
 ·have hp1 : ¬ (p : Int) ≤ 0 := by omega
  have hp2 : (0 : Int) < (p : Int) := by omega
  have hmk : ∀ W : World, (Instr.makeSlice 103 (.int .i64 (p : Int)) (.int .i64 (p : Int))).run Tryz.prog W = .ok (.slice (some ⟨W.heap.size, 0, none⟩) p p) (W.alloc (.cells (zrow p) 22)) := fun W => make_nat p (by omega) W
  clear HZP
  go_enter Tryz.func115, Tryz.ntmps115
  go_wp2_with fail
  go_loopw [22] (fun iv wr => ∃ k : Nat, k ≤ p ∧ iv = .int .i64 (k : Int) ∧ wr.heap[w.heap.size]? = some (.cells (fillTo (dig 4294967296 M) p k) 22) ∧ Below w.heap.size w wr) (fun iv _ => p - (intOf iv).toNat)
  case atStart => exact ⟨0, Nat.zero_le _, rfl, by rw [fillTo_zero]; exact heap_alloc_new w _, (Below.refl _ w).alloc (Nat.le_refl _) _⟩
  case round =>
   obtain ⟨k, hk, rfl, hgk, hb⟩ := hrel
   by_cases hlt : k < p
   ·obtain ⟨b, off, rfl, hbl, hx0⟩ := HA.out k hlt
    have hx : wr.cell? ⟨b, off + k, none⟩ = some (.int .u32 (dig 4294967296 A k : Int)) := (hb.cell (p := ⟨b, off + k, none⟩) hbl).trans hx0
    obtain ⟨u, hcu, hfu⟩ := fill_cell hgk (by omega)
    have hdg := HDG.out k
    have hd1 := wd_dig A k
    have hd2 := wd_dig A (k + 1)
    have hd3 := wd_dig M k
    obtain ⟨x, ex⟩ : ∃ x, x = dig 4294967296 A k := ⟨_, rfl⟩
    obtain ⟨y, ey⟩ : ∃ x, x = dig 4294967296 A (k + 1) := ⟨_, rfl⟩
    obtain ⟨z, ez⟩ : ∃ x, x = dig 4294967296 M k := ⟨_, rfl⟩
    rw [← ex, ← ey, ← ez] at hdg
    rw [← ex] at hx hd1
    rw [← ey] at hd2
    rw [← ez] at hd3
    have EY := Lib.hid ey
    have EZ := Lib.hid ez
    have HGK := Lib.hid hgk
    clear ex hx0 hgk
    have hp2s : 0 < 2 ^ s := Nat.pow_pos (by omega)
    by_cases hk1 : k + 1 < p
    ·obtain ⟨b2, off2, hb2, hbl2, hy0⟩ := HA.out (k + 1) hk1
     injection hb2 with hb2
     injection hb2 with hb2 hb3
     subst hb2 hb3
     have hy : wr.cell? ⟨b, off + (k + 1), none⟩ = some (.int .u32 (y : Int)) := (hb.cell (p := ⟨b, off + (k + 1), none⟩) hbl2).trans (by rw [hy0, EY.out])
     have hor := or_hi .u64 (Or.inl rfl) 32 y x hd1 (by simp only [if_true]; omega)
     obtain ⟨Y, eY⟩ : ∃ Y, Y = x + y * 2 ^ 32 := ⟨_, rfl⟩
     rw [← eY] at hor hdg
     have hor2 : bits .or .u64 (x : Int) ((y : Int) * 4294967296) = (Y : Int) := by rw [← hor]; congr 1
     have hY : Y < 18446744073709551616 := by rw [eY]; omega
     have t1 : (Y : Int) / 2 ^ s % 4294967296 = (z : Int) := by rw [← hdg]; simp
     have hk1' : (k : Int) + 1 < (p : Int) := by omega
     clear hor ey ez eY hy0 hdg
     go_wp2
     go_roundw
     case rel => exact ⟨k + 1, by omega, by go_num, by rw [EZ.out]; exact fill_set HGK.out, hb.setCell (by simp) _⟩
     case measure => simp [intOf]; omega
    ·have hy0 : y = 0 := by rw [EY.out]; exact HHI.out (k + 1) (by omega)
     rw [hy0, Nat.zero_mul, Nat.add_zero] at hdg
     have t1 : (x : Int) / 2 ^ s % 4294967296 = (z : Int) := by rw [← hdg]; simp
     have hk1' : ¬ (k : Int) + 1 < (p : Int) := by omega
     clear ey ez hy0 hdg
     go_wp2
     go_roundw
     case rel => exact ⟨k + 1, by omega, by go_num, by rw [EZ.out]; exact fill_set HGK.out, hb.setCell (by simp) _⟩
     case measure => simp [intOf]; omega
   ·obtain rfl : k = p := by omega
    obtain ⟨R, HR⟩ : ∃ R, Hid (R = (trimL ((List.range k).map (dig 4294967296 M))).length) := ⟨_, rfl⟩
    have HGK := Lib.hid hgk
    clear hgk
    go_wp2_with fail
    (with_reducible refine (norm_row _ _ _ R HR _ _ HGK.out (by omega)).mono ?_)
    rintro e w2 ⟨rfl, rfl⟩
    go_wp2
    rw [HP.out]
    exact num_ret HR HGK.out hb (Nat.le_refl _) (by omega) (Nat.lt_of_le_of_lt (by rw [HM.out]; exact Nat.div_le_self _ _) HVA.out)
end
/- Wide integers: helpers and walks, in one text (XR1 XR2 XR3 XR4 XR5). -/
/- The reference's numbers: words of 16 bits: compared, their sum, their difference. -/
section
open Go.RowKit Go.Shelf Go.WideNum
abbrev World.numH (w : World) (v : Value) (n : Nat) : Prop := w.reads w.heap.size v ((hw n).map u32V)
abbrev World.rawH (w : World) (v : Value) (n L : Nat) : Prop := w.reads w.heap.size v (((List.range L).map (dig 65536 n)).map u32V)
def HRet (w : World) (n : Nat) (e : Ending) (w' : World) : Prop := ∃ v, e = .returned v ∧ World.numH w' v n ∧ Below w.heap.size w w'
def RawRet (w : World) (n L : Nat) (e : Ending) (w' : World) : Prop := ∃ v, e = .returned v ∧ World.rawH w' v n L ∧ Below w.heap.size w w'
theorem range_hw (n m : Nat) (h : n < 65536 ^ m) : trimL ((List.range m).map (dig 65536 n)) = hw n := trim_range (by omega) n m h
theorem hw_range (n : Nat) : (List.range (hw n).length).map (dig 65536 n) = hw n := by
 apply List.ext_getElem?
 intro i
 rcases Nat.lt_or_ge i (hw n).length with h | h
 ·rw [hw_get n i h]; simp [h]
 ·rw [List.getElem?_eq_none (by simpa using h), List.getElem?_eq_none h]
theorem numH_below {w w' : World} {v : Value} {n : Nat} (h : World.numH w v n) (hb : Below w.heap.size w w') : World.numH w' v n := (World.reads.below h hb).mono hb.size
theorem rawH_below {w w' : World} {v : Value} {n L : Nat} (h : World.rawH w v n L) (hb : Below w.heap.size w w') : World.rawH w' v n L := (World.reads.below h hb).mono hb.size
theorem numH_raw {w : World} {v : Value} {n : Nat} (h : World.numH w v n) : World.rawH w v n (hw n).length := by
 show w.reads _ _ _
 rw [hw_range]; exact h
theorem rawH_num {w : World} {v : Value} {n L : Nat} (h : World.rawH w v n L) (hL : L = (hw n).length) : World.numH w v n := by
 subst hL
 have h : w.reads _ _ _ := h
 rw [hw_range] at h; exact h
theorem hw_len_lt {A C : Nat} (h : (hw A).length < (hw C).length) : A < C := by
 rcases Nat.lt_or_ge A C with h1 | h1
 ·exact h1
 ·have h2 := words_length (B := 65536) (by omega) C (hw A).length (Nat.lt_of_le_of_lt h1 (hw_vlt A))
  unfold hw at h h2
  omega
theorem hw_len_ge {n k : Nat} (h : k < (hw n).length) : 65536 ^ k ≤ n := by
 rcases Nat.lt_or_ge n (65536 ^ k) with h1 | h1
 ·have := words_length (B := 65536) (by omega) n k h1
  unfold hw at h; omega
 ·exact h1
theorem hw_len_le {n k : Nat} (h : n < 65536 ^ k) : (hw n).length ≤ k := words_length (by omega) n k h
theorem cmpTo_hw (A C k : Nat) (h1 : k = (hw A).length) (h2 : k = (hw C).length) : cmpTo (hw A) (hw C) k = cmpN A C := by
 rw [cmpTo_val 65536 (by omega) (hw A) (hw C) (words_lt (by omega) A A) (words_lt (by omega) C C) k (by omega) (by omega), List.take_of_length_le (by omega), List.take_of_length_le (by omega), valW_hw, valW_hw]
 rfl
theorem numH_words {w : World} {v : Value} {n : Nat} (h : World.numH w v n) : ∃ (a : Option Addr) (p c : Nat), p = (hw n).length ∧ v = .slice a p c ∧ p ≤ c ∧ c ≤ maxLen ∧
  ∀ k, k < p → ∃ b off, a = some ⟨b, off, none⟩ ∧ b < w.heap.size ∧ w.cell? ⟨b, off + k, none⟩ = some (.int .u32 (dig 65536 n k : Int)) := by
 obtain ⟨a, c, rfl, hc, hm, hs⟩ := reads_u32 h
 exact ⟨a, _, c, rfl, rfl, hc, hm, fun k hk => hs k _ (hw_get n k hk)⟩
theorem owns_nil (w : World) (base : Nat) (T : TypeId) : w.owns base T 1 (.slice none 0 0) 0 [] := ⟨rfl, .inl ⟨rfl, rfl⟩⟩
theorem order_num (A C : Nat) (va vb : Value) (w : World) (hA : World.numH w va A) (hC : World.numH w vb C) (hla : (hw A).length ≤ 4000) (hlc : (hw C).length ≤ 4000) :
  Calls Tryz.prog 103 #[va, vb] w fun e w' => e = .returned (.int .i64 (cmpN A C)) ∧ ∃ n, w' = w.drewN n := by
 obtain ⟨aa, p, ca, hp, rfl, hca, hma, hsa⟩ := numH_words hA
 obtain ⟨ab, q, cb, hq, rfl, hcb, hmb, hsb⟩ := numH_words hC
 clear hA hC
 rw [← hp] at hla
 rw [← hq] at hlc
 obtain ⟨R, hR⟩ : ∃ R, R = cmpN A C := ⟨_, rfl⟩
 rw [← hR]
 have HA := Lib.hid hsa
 have HC := Lib.hid hsb
 clear hsa hsb
 rcases Nat.lt_trichotomy p q with h | h | h
 ·have h1 : (p : Int) < (q : Int) := by omega
  have h2 : ((p : Int) != (q : Int)) = true := by rw [bne_iff_ne]; omega
  have hre : R = -1 := by rw [hR, cmpN, if_pos (hw_len_lt (by omega))]
  subst hre
  clear h hp hq hR
  go_enter Tryz.func103, Tryz.ntmps103
  go_wp2
  go_ret
  exact ⟨rfl, 0, rfl⟩
 ·subst h
  have hre : Hid (R = cmpTo (hw A) (hw C) p) := by show _ = _; rw [hR, cmpTo_hw A C p hp hq]
  have h2 : ((p : Int) != (p : Int)) = false := by simp
  have HPA := Lib.hid hp
  have HPC := Lib.hid hq
  clear hR hp hq
  go_enter Tryz.func103, Tryz.ntmps103
  go_wp2_with fail
  go_loopw [5] (fun iv wr => ∃ (k n : Nat), k ≤ p ∧ iv = .int .i64 ((k : Int) - 1) ∧ Hid (R = cmpTo (hw A) (hw C) k) ∧ wr = w.drewN n) (fun iv _ => (intOf iv + 1).toNat)
  case atStart => exact ⟨p, 0, Nat.le_refl _, rfl, hre.out, rfl⟩
  case round =>
   obtain ⟨k, n, hk, rfl, hT, hwr⟩ := hrel
   cases k with
   | zero =>
    have hre0 : R = 0 := hT.out
    subst hre0
    have h0 : ¬ (0 : Int) ≤ ((0 : Nat) : Int) - 1 := by omega
    go_wp2
    go_ret
    exact ⟨rfl, n, by first | exact hwr | rfl⟩
   | succ j =>
    rw [show ((j + 1 : Nat) : Int) - 1 = (j : Int) by omega]
    obtain ⟨ba, oa, rfl, hba, cx⟩ := HA.out j (by omega)
    obtain ⟨bb, ob, rfl, hbb, cy⟩ := HC.out j (by omega)
    have hst : Hid (R = if dig 65536 A j < dig 65536 C j then -1 else if dig 65536 C j < dig 65536 A j then 1 else cmpTo (hw A) (hw C) j) := by
     show _ = _
     rw [hT.out, cmpTo, List.getD_eq_getElem?_getD, List.getD_eq_getElem?_getD, hw_get A j (by have := HPA.out; omega), hw_get C j (by have := HPC.out; omega)]; rfl
    obtain ⟨x, ex⟩ : ∃ x, x = dig 65536 A j := ⟨_, rfl⟩
    obtain ⟨y, ey⟩ : ∃ x, x = dig 65536 C j := ⟨_, rfl⟩
    rw [← ex] at cx hst
    rw [← ey] at cy hst
    have kx : wr.cell? ⟨ba, oa + j, none⟩ = some (.int .u32 (x : Int)) := by rw [hwr]; exact cx
    have ky : wr.cell? ⟨bb, ob + j, none⟩ = some (.int .u32 (y : Int)) := by rw [hwr]; exact cy
    have HW := Lib.hid hwr
    have hjp : j < p := by omega
    have hjp' : (j : Int) < (p : Int) := by omega
    clear ex ey cx cy hwr
    rcases Nat.lt_trichotomy x y with h | h | h
    ·have t0 : ((x : Int) != (y : Int)) = true := by rw [bne_iff_ne]; omega
     have t1 : decide ((x : Int) < (y : Int)) = true := decide_eq_true (by omega)
     have hre1 : R = -1 := by rw [hst.out, if_pos h]
     subst hre1
     go_wp2_with fail
     refine wp_region_heldL (fun w' => w'.cell? ⟨ba, oa + j, none⟩ = some (.int .u32 (x : Int)) ∧ w'.cell? ⟨bb, ob + j, none⟩ = some (.int .u32 (y : Int))) (by kernel_rfl) ⟨kx, ky⟩ (fun hS => ?_)
     refine tkH 0 (v := ?_) rfl ?_ ?_
     rotate_left
     ·(intro wq hSq; (try dsimp only at hSq); go_simp; try with_reducible rfl)
     try simp only [Act.put, List.setIfInBounds_toArray, List.set_cons_zero, List.set_cons_succ]
     refine tkH 1 (v := ?_) rfl ?_ ?_
     rotate_left
     ·(intro wq hSq; (try dsimp only at hSq); go_simp; try with_reducible rfl)
     try simp only [Act.put, List.setIfInBounds_toArray, List.set_cons_zero, List.set_cons_succ]
     refine tkH 2 (v := ?_) rfl ?_ ?_
     rotate_left
     ·(intro wq hSq; (try dsimp only at hSq); go_simp; try with_reducible rfl)
     try simp only [Act.put, List.setIfInBounds_toArray, List.set_cons_zero, List.set_cons_succ]
     refine tkH 3 (v := ?_) rfl ?_ ?_
     rotate_left
     ·(intro wq hSq; (try dsimp only at hSq); go_simp; try with_reducible rfl)
     try simp only [Act.put, List.setIfInBounds_toArray, List.set_cons_zero, List.set_cons_succ]
     refine tkH 4 (v := ?_) rfl ?_ ?_
     rotate_left
     ·(intro wq hSq; (try dsimp only at hSq); go_simp; try with_reducible rfl)
     try simp only [Act.put, List.setIfInBounds_toArray, List.set_cons_zero, List.set_cons_succ]
     refine tkH 5 (v := ?_) rfl ?_ ?_
     rotate_left
     ·(intro wq hSq; (try dsimp only at hSq); go_simp; try with_reducible rfl)
     try simp only [Act.put, List.setIfInBounds_toArray, List.set_cons_zero, List.set_cons_succ]
     refine tkH 6 (v := ?_) rfl ?_ ?_
     rotate_left
     ·(intro wq hSq; (try dsimp only at hSq); go_simp; try with_reducible rfl)
     try simp only [Act.put, List.setIfInBounds_toArray, List.set_cons_zero, List.set_cons_succ]
     refine tkH 7 (v := ?_) rfl ?_ ?_
     rotate_left
     ·(intro wq hSq; (try dsimp only at hSq); go_simp; try with_reducible rfl)
     try simp only [Act.put, List.setIfInBounds_toArray, List.set_cons_zero, List.set_cons_succ]
     refine tkH 8 (v := ?_) rfl ?_ ?_
     rotate_left
     ·(intro wq hSq; (try dsimp only at hSq); go_simp; try with_reducible rfl)
     try simp only [Act.put, List.setIfInBounds_toArray, List.set_cons_zero, List.set_cons_succ]
     refine wpAnyH_end (by kernel_rfl) ?_
     go_wp2_with fail
     refine wp_region_heldL (fun w' => w'.cell? ⟨ba, oa + j, none⟩ = some (.int .u32 (x : Int)) ∧ w'.cell? ⟨bb, ob + j, none⟩ = some (.int .u32 (y : Int))) (by kernel_rfl) ⟨kx, ky⟩ (fun hS => ?_)
     refine tkH 0 (v := ?_) rfl ?_ ?_
     rotate_left
     ·(intro wq hSq; (try dsimp only at hSq); go_simp; try with_reducible rfl)
     try simp only [Act.put, List.setIfInBounds_toArray, List.set_cons_zero, List.set_cons_succ]
     refine tkH 1 (v := ?_) rfl ?_ ?_
     rotate_left
     ·(intro wq hSq; (try dsimp only at hSq); go_simp; try with_reducible rfl)
     try simp only [Act.put, List.setIfInBounds_toArray, List.set_cons_zero, List.set_cons_succ]
     refine tkH 2 (v := ?_) rfl ?_ ?_
     rotate_left
     ·(intro wq hSq; (try dsimp only at hSq); go_simp; try with_reducible rfl)
     try simp only [Act.put, List.setIfInBounds_toArray, List.set_cons_zero, List.set_cons_succ]
     refine tkH 3 (v := ?_) rfl ?_ ?_
     rotate_left
     ·(intro wq hSq; (try dsimp only at hSq); go_simp; try with_reducible rfl)
     try simp only [Act.put, List.setIfInBounds_toArray, List.set_cons_zero, List.set_cons_succ]
     refine tkH 4 (v := ?_) rfl ?_ ?_
     rotate_left
     ·(intro wq hSq; (try dsimp only at hSq); go_simp; try with_reducible rfl)
     try simp only [Act.put, List.setIfInBounds_toArray, List.set_cons_zero, List.set_cons_succ]
     refine tkH 5 (v := ?_) rfl ?_ ?_
     rotate_left
     ·(intro wq hSq; (try dsimp only at hSq); go_simp; try with_reducible rfl)
     try simp only [Act.put, List.setIfInBounds_toArray, List.set_cons_zero, List.set_cons_succ]
     refine tkH 6 (v := ?_) rfl ?_ ?_
     rotate_left
     ·(intro wq hSq; (try dsimp only at hSq); go_simp; try with_reducible rfl)
     try simp only [Act.put, List.setIfInBounds_toArray, List.set_cons_zero, List.set_cons_succ]
     refine tkH 7 (v := ?_) rfl ?_ ?_
     rotate_left
     ·(intro wq hSq; (try dsimp only at hSq); go_simp; try with_reducible rfl)
     try simp only [Act.put, List.setIfInBounds_toArray, List.set_cons_zero, List.set_cons_succ]
     refine tkH 8 (v := ?_) rfl ?_ ?_
     rotate_left
     ·(intro wq hSq; (try dsimp only at hSq); go_simp; try with_reducible rfl)
     try simp only [Act.put, List.setIfInBounds_toArray, List.set_cons_zero, List.set_cons_succ]
     refine wpAnyH_end (by kernel_rfl) ?_
     go_wp2
     go_ret
     exact ⟨rfl, n + 1 + 1, by rw [HW.out]; rfl⟩
    ·subst h
     have t0 : ((x : Int) != (x : Int)) = false := by simp
     have HREJ : Hid (R = cmpTo (hw A) (hw C) j) := by show _ = _; rw [hst.out, if_neg (by omega), if_neg (by omega)]
     go_wp2_with fail
     refine wp_region_heldL (fun w' => w'.cell? ⟨ba, oa + j, none⟩ = some (.int .u32 (x : Int)) ∧ w'.cell? ⟨bb, ob + j, none⟩ = some (.int .u32 (x : Int))) (by kernel_rfl) ⟨kx, ky⟩ (fun hS => ?_)
     refine tkH 0 (v := ?_) rfl ?_ ?_
     rotate_left
     ·(intro wq hSq; (try dsimp only at hSq); go_simp; try with_reducible rfl)
     try simp only [Act.put, List.setIfInBounds_toArray, List.set_cons_zero, List.set_cons_succ]
     refine tkH 1 (v := ?_) rfl ?_ ?_
     rotate_left
     ·(intro wq hSq; (try dsimp only at hSq); go_simp; try with_reducible rfl)
     try simp only [Act.put, List.setIfInBounds_toArray, List.set_cons_zero, List.set_cons_succ]
     refine tkH 2 (v := ?_) rfl ?_ ?_
     rotate_left
     ·(intro wq hSq; (try dsimp only at hSq); go_simp; try with_reducible rfl)
     try simp only [Act.put, List.setIfInBounds_toArray, List.set_cons_zero, List.set_cons_succ]
     refine tkH 3 (v := ?_) rfl ?_ ?_
     rotate_left
     ·(intro wq hSq; (try dsimp only at hSq); go_simp; try with_reducible rfl)
     try simp only [Act.put, List.setIfInBounds_toArray, List.set_cons_zero, List.set_cons_succ]
     refine tkH 4 (v := ?_) rfl ?_ ?_
     rotate_left
     ·(intro wq hSq; (try dsimp only at hSq); go_simp; try with_reducible rfl)
     try simp only [Act.put, List.setIfInBounds_toArray, List.set_cons_zero, List.set_cons_succ]
     refine tkH 5 (v := ?_) rfl ?_ ?_
     rotate_left
     ·(intro wq hSq; (try dsimp only at hSq); go_simp; try with_reducible rfl)
     try simp only [Act.put, List.setIfInBounds_toArray, List.set_cons_zero, List.set_cons_succ]
     refine tkH 6 (v := ?_) rfl ?_ ?_
     rotate_left
     ·(intro wq hSq; (try dsimp only at hSq); go_simp; try with_reducible rfl)
     try simp only [Act.put, List.setIfInBounds_toArray, List.set_cons_zero, List.set_cons_succ]
     refine tkH 7 (v := ?_) rfl ?_ ?_
     rotate_left
     ·(intro wq hSq; (try dsimp only at hSq); go_simp; try with_reducible rfl)
     try simp only [Act.put, List.setIfInBounds_toArray, List.set_cons_zero, List.set_cons_succ]
     refine tkH 8 (v := ?_) rfl ?_ ?_
     rotate_left
     ·(intro wq hSq; (try dsimp only at hSq); go_simp; try with_reducible rfl)
     try simp only [Act.put, List.setIfInBounds_toArray, List.set_cons_zero, List.set_cons_succ]
     refine wpAnyH_end (by kernel_rfl) ?_
     go_wp2
     go_roundw
     case rel => exact ⟨j, n + 1, by omega, rfl, HREJ.out, by rw [HW.out]; rfl⟩
     case measure => first | (simp [intOf]; done) | (simp [intOf]; omega)
    ·have t0 : ((x : Int) != (y : Int)) = true := by rw [bne_iff_ne]; omega
     have t1 : decide ((x : Int) < (y : Int)) = false := decide_eq_false (by omega)
     have hre1 : R = 1 := by rw [hst.out, if_neg (by omega), if_pos h]
     subst hre1
     go_wp2_with fail
     refine wp_region_heldL (fun w' => w'.cell? ⟨ba, oa + j, none⟩ = some (.int .u32 (x : Int)) ∧ w'.cell? ⟨bb, ob + j, none⟩ = some (.int .u32 (y : Int))) (by kernel_rfl) ⟨kx, ky⟩ (fun hS => ?_)
     refine tkH 0 (v := ?_) rfl ?_ ?_
     rotate_left
     ·(intro wq hSq; (try dsimp only at hSq); go_simp; try with_reducible rfl)
     try simp only [Act.put, List.setIfInBounds_toArray, List.set_cons_zero, List.set_cons_succ]
     refine tkH 1 (v := ?_) rfl ?_ ?_
     rotate_left
     ·(intro wq hSq; (try dsimp only at hSq); go_simp; try with_reducible rfl)
     try simp only [Act.put, List.setIfInBounds_toArray, List.set_cons_zero, List.set_cons_succ]
     refine tkH 2 (v := ?_) rfl ?_ ?_
     rotate_left
     ·(intro wq hSq; (try dsimp only at hSq); go_simp; try with_reducible rfl)
     try simp only [Act.put, List.setIfInBounds_toArray, List.set_cons_zero, List.set_cons_succ]
     refine tkH 3 (v := ?_) rfl ?_ ?_
     rotate_left
     ·(intro wq hSq; (try dsimp only at hSq); go_simp; try with_reducible rfl)
     try simp only [Act.put, List.setIfInBounds_toArray, List.set_cons_zero, List.set_cons_succ]
     refine tkH 4 (v := ?_) rfl ?_ ?_
     rotate_left
     ·(intro wq hSq; (try dsimp only at hSq); go_simp; try with_reducible rfl)
     try simp only [Act.put, List.setIfInBounds_toArray, List.set_cons_zero, List.set_cons_succ]
     refine tkH 5 (v := ?_) rfl ?_ ?_
     rotate_left
     ·(intro wq hSq; (try dsimp only at hSq); go_simp; try with_reducible rfl)
     try simp only [Act.put, List.setIfInBounds_toArray, List.set_cons_zero, List.set_cons_succ]
     refine tkH 6 (v := ?_) rfl ?_ ?_
     rotate_left
     ·(intro wq hSq; (try dsimp only at hSq); go_simp; try with_reducible rfl)
     try simp only [Act.put, List.setIfInBounds_toArray, List.set_cons_zero, List.set_cons_succ]
     refine tkH 7 (v := ?_) rfl ?_ ?_
     rotate_left
     ·(intro wq hSq; (try dsimp only at hSq); go_simp; try with_reducible rfl)
     try simp only [Act.put, List.setIfInBounds_toArray, List.set_cons_zero, List.set_cons_succ]
     refine tkH 8 (v := ?_) rfl ?_ ?_
     rotate_left
     ·(intro wq hSq; (try dsimp only at hSq); go_simp; try with_reducible rfl)
     try simp only [Act.put, List.setIfInBounds_toArray, List.set_cons_zero, List.set_cons_succ]
     refine wpAnyH_end (by kernel_rfl) ?_
     go_wp2_with fail
     refine wp_region_heldL (fun w' => w'.cell? ⟨ba, oa + j, none⟩ = some (.int .u32 (x : Int)) ∧ w'.cell? ⟨bb, ob + j, none⟩ = some (.int .u32 (y : Int))) (by kernel_rfl) ⟨kx, ky⟩ (fun hS => ?_)
     refine tkH 0 (v := ?_) rfl ?_ ?_
     rotate_left
     ·(intro wq hSq; (try dsimp only at hSq); go_simp; try with_reducible rfl)
     try simp only [Act.put, List.setIfInBounds_toArray, List.set_cons_zero, List.set_cons_succ]
     refine tkH 1 (v := ?_) rfl ?_ ?_
     rotate_left
     ·(intro wq hSq; (try dsimp only at hSq); go_simp; try with_reducible rfl)
     try simp only [Act.put, List.setIfInBounds_toArray, List.set_cons_zero, List.set_cons_succ]
     refine tkH 2 (v := ?_) rfl ?_ ?_
     rotate_left
     ·(intro wq hSq; (try dsimp only at hSq); go_simp; try with_reducible rfl)
     try simp only [Act.put, List.setIfInBounds_toArray, List.set_cons_zero, List.set_cons_succ]
     refine tkH 3 (v := ?_) rfl ?_ ?_
     rotate_left
     ·(intro wq hSq; (try dsimp only at hSq); go_simp; try with_reducible rfl)
     try simp only [Act.put, List.setIfInBounds_toArray, List.set_cons_zero, List.set_cons_succ]
     refine tkH 4 (v := ?_) rfl ?_ ?_
     rotate_left
     ·(intro wq hSq; (try dsimp only at hSq); go_simp; try with_reducible rfl)
     try simp only [Act.put, List.setIfInBounds_toArray, List.set_cons_zero, List.set_cons_succ]
     refine tkH 5 (v := ?_) rfl ?_ ?_
     rotate_left
     ·(intro wq hSq; (try dsimp only at hSq); go_simp; try with_reducible rfl)
     try simp only [Act.put, List.setIfInBounds_toArray, List.set_cons_zero, List.set_cons_succ]
     refine tkH 6 (v := ?_) rfl ?_ ?_
     rotate_left
     ·(intro wq hSq; (try dsimp only at hSq); go_simp; try with_reducible rfl)
     try simp only [Act.put, List.setIfInBounds_toArray, List.set_cons_zero, List.set_cons_succ]
     refine tkH 7 (v := ?_) rfl ?_ ?_
     rotate_left
     ·(intro wq hSq; (try dsimp only at hSq); go_simp; try with_reducible rfl)
     try simp only [Act.put, List.setIfInBounds_toArray, List.set_cons_zero, List.set_cons_succ]
     refine tkH 8 (v := ?_) rfl ?_ ?_
     rotate_left
     ·(intro wq hSq; (try dsimp only at hSq); go_simp; try with_reducible rfl)
     try simp only [Act.put, List.setIfInBounds_toArray, List.set_cons_zero, List.set_cons_succ]
     refine wpAnyH_end (by kernel_rfl) ?_
     go_wp2
     go_ret
     exact ⟨rfl, n + 1 + 1, by rw [HW.out]; rfl⟩
 ·have h1 : ¬ (p : Int) < (q : Int) := by omega
  have h2 : ((p : Int) != (q : Int)) = true := by rw [bne_iff_ne]; omega
  have hlt := hw_len_lt (A := C) (C := A) (by omega)
  have hre : R = 1 := by rw [hR, cmpN, if_neg (by omega), if_pos hlt]
  subst hre
  clear h hp hq hR hlt
  go_enter Tryz.func103, Tryz.ntmps103
  go_wp2
  go_ret
  exact ⟨rfl, 0, rfl⟩
end
/- The reference's numbers: sums and differences. -/
section
open Go.RowKit Go.Shelf Go.WideNum
theorem sum_more (A C i : Nat) : i < (hw (A + C)).length ↔ (i < (hw A).length ∨ i < (hw C).length ∨ 0 < carry 65536 A C i) := by
 constructor
 ·intro h
  by_cases h1 : i < (hw A).length
  ·exact .inl h1
  by_cases h2 : i < (hw C).length
  ·exact .inr (.inl h2)
  refine .inr (.inr ?_)
  have e1 := Nat.lt_of_lt_of_le (hw_vlt A) (Nat.pow_le_pow_right (show 0 < 65536 by omega) (Nat.le_of_not_lt h1))
  have e2 := Nat.lt_of_lt_of_le (hw_vlt C) (Nat.pow_le_pow_right (show 0 < 65536 by omega) (Nat.le_of_not_lt h2))
  unfold carry
  rw [Nat.mod_eq_of_lt e1, Nat.mod_eq_of_lt e2]
  exact Nat.div_pos (hw_len_ge h) (Nat.pow_pos (by omega))
 ·intro h
  rcases Nat.lt_or_ge i (hw (A + C)).length with h1 | h1
  ·exact h1
  have e := Nat.lt_of_lt_of_le (hw_vlt (A + C)) (Nat.pow_le_pow_right (show 0 < 65536 by omega) h1)
  rcases h with h | h | h
  ·have := hw_len_ge h; omega
  ·have := hw_len_ge h; omega
  ·have h2 : 65536 ^ i ≤ A % 65536 ^ i + C % 65536 ^ i := by
    rcases Nat.lt_or_ge (A % 65536 ^ i + C % 65536 ^ i) (65536 ^ i) with h3 | h3
    ·unfold carry at h; rw [Nat.div_eq_of_lt h3] at h; omega
    ·exact h3
   have h3 := Nat.mod_le A (65536 ^ i)
   have h4 := Nat.mod_le C (65536 ^ i)
   omega
theorem hplus_any (A C : Nat) (va vb : Value) (w : World) (hA : World.numH w va A) (hC : World.numH w vb C) (hla : (hw A).length ≤ 4000) (hlc : (hw C).length ≤ 4000) :
  Calls Tryz.prog 102 #[va, vb] w (HRet w (A + C)) := by
 obtain ⟨aa, p, ca, hp, rfl, hca, hma, hsa⟩ := numH_words hA
 obtain ⟨ab, q, cb, hq, rfl, hcb, hmb, hsb⟩ := numH_words hC
 clear hA hC
 rw [← hp] at hla
 rw [← hq] at hlc
 have HA := Lib.hid hsa
 have HC := Lib.hid hsb
 have HZA : Hid (∀ k, p ≤ k → dig 65536 A k = 0) := fun k hk => hw_high A k (by omega)
 have HZC : Hid (∀ k, q ≤ k → dig 65536 C k = 0) := fun k hk => hw_high C k (by omega)
 obtain ⟨L, hL⟩ : ∃ L, L = (hw (A + C)).length := ⟨_, rfl⟩
 have HMO : Hid (∀ i, i < L ↔ (i < p ∨ i < q ∨ 0 < carry 65536 A C i)) := fun i => by rw [hL, hp, hq]; exact sum_more A C i
 have HL := Lib.hid hL
 have hL2 : L ≤ 4001 := by
  obtain ⟨K, hK⟩ : ∃ K, K = 4000 := ⟨_, rfl⟩
  have e1 := Nat.lt_of_lt_of_le (hw_vlt A) (Nat.pow_le_pow_right (show 0 < 65536 by omega) (show (hw A).length ≤ K by omega))
  have e2 := Nat.lt_of_lt_of_le (hw_vlt C) (Nat.pow_le_pow_right (show 0 < 65536 by omega) (show (hw C).length ≤ K by omega))
  have h3 : A + C < 65536 ^ (K + 1) := by
   rw [Nat.pow_succ]
   generalize 65536 ^ K = P at *
   omega
  have := hw_len_le h3
  omega
 clear hp hq hsa hsb hL
 obtain ⟨HPOST, hpost⟩ : ∃ R, R = HRet w (A + C) := ⟨_, rfl⟩
 rw [← hpost]
 have HP := Lib.hid hpost
 clear hpost
 go_enter Tryz.func102, Tryz.ntmps102
 go_wp2_with fail
 go_loopw [5, 6, 7] (fun sv cv iv wr => ∃ (i : Nat) (xa : Option Addr) (xc : Nat), i ≤ L ∧ iv = .int .i64 (i : Int) ∧ sv = .slice xa i xc ∧ cv = .int .u32 (carry 65536 A C i : Int) ∧ Hid (wr.owns w.heap.size 22 1 (.slice xa i xc) i (((List.range i).map (dig 65536 (A + C))).map u32V)) ∧ Hid (Below w.heap.size w wr)) (fun _ _ iv _ => L - (intOf iv).toNat)
 case atStart => exact ⟨0, none, 0, Nat.zero_le _, rfl, rfl, by rw [carry_zero]; rfl, owns_nil _ _ _, Below.refl _ w⟩
 case round =>
  obtain ⟨i, xa, xc, hi, rfl, rfl, rfl, hO, hB⟩ := hrel
  have hz := hB.out.size
  have hmo := HMO.out i
  have HST := Lib.hid (add_step (B := 65536) (by omega) A C i)
  have hd1 := hw_dig A i
  have hd2 := hw_dig C i
  have hd3 := hw_dig (A + C) i
  have hc1 := carry_le (B := 65536) (by omega) A C i
  have hc2 := carry_le (B := 65536) (by omega) A C (i + 1)
  obtain ⟨x, ex⟩ : ∃ x, x = dig 65536 A i := ⟨_, rfl⟩
  obtain ⟨y, ey⟩ : ∃ x, x = dig 65536 C i := ⟨_, rfl⟩
  obtain ⟨z, ez⟩ : ∃ x, x = dig 65536 (A + C) i := ⟨_, rfl⟩
  obtain ⟨c, ec⟩ : ∃ x, x = carry 65536 A C i := ⟨_, rfl⟩
  obtain ⟨d, ed⟩ : ∃ x, x = carry 65536 A C (i + 1) := ⟨_, rfl⟩
  rw [← ex, ← ey, ← ez, ← ec, ← ed] at HST
  rw [← ex] at hd1
  rw [← ey] at hd2
  rw [← ez] at hd3
  rw [← ec] at hc1 hmo ⊢
  rw [← ed] at hc2
  have EX := Lib.hid ex
  have EY := Lib.hid ey
  have EZ := Lib.hid ez
  have ED := Lib.hid ed
  clear ex ey ez ec ed
  by_cases hlt : i < L
  ·have hor := hmo.1 hlt
   clear hmo
   by_cases hip : i < p
   ·obtain ⟨b, off, rfl, hbl, hx0⟩ := HA.out i hip
    have hx : wr.cell? ⟨b, off + i, none⟩ = some (.int .u32 (x : Int)) := (hB.out.cell (p := ⟨b, off + i, none⟩) hbl).trans (by rw [hx0, EX.out])
    have hip' : (i : Int) < (p : Int) := by omega
    clear hx0 hor
    by_cases hiq : i < q
    ·obtain ⟨b2, off2, rfl, hbl2, hy0⟩ := HC.out i hiq
     have hy : wr.cell? ⟨b2, off2 + i, none⟩ = some (.int .u32 (y : Int)) := (hB.out.cell (p := ⟨b2, off2 + i, none⟩) hbl2).trans (by rw [hy0, EY.out])
     have hiq' : (i : Int) < (q : Int) := by omega
     have t1 : ((c : Int) + (x : Int) + (y : Int)) % 65536 = (z : Int) := by have := HST.out; omega
     have t2 : ((c : Int) + (x : Int) + (y : Int)) / 65536 = (d : Int) := by have := HST.out; omega
     clear hy0
     go_wp2_with (at_builtin; refine app_u32 wr 23 Tryz.underlying23 rfl (.tmp 44) (.tmp 47) rfl w.heap.size (.slice xa i xc) i _ rfl hO.out (z : Int) wr.heap.size rfl rfl (by omega) hz ?_; intro v5 w5 hown5 hg5 hz5; have HO5 := Lib.hid hown5; obtain ⟨g5, q5, rfl⟩ := hown5.succ; have HB5 := Lib.hid (hB.out.trans (below_grown hO.out hg5 w.heap.size (Nat.le_refl _) hz)); clear hown5 hg5)
     go_roundw
     case rel =>
      refine ⟨i + 1, _, q5, by omega, by go_num, rfl, (by first | (rw [← ED.out, t2]; done) | rw [← ED.out]), ?_, HB5.out⟩
      show w5.owns _ _ _ _ _ _
      rw [List.range_succ, List.map_append, List.map_append]
      show w5.owns _ _ _ _ _ (_ ++ [u32V (dig 65536 (A + C) i)])
      rw [← EZ.out]
      exact HO5.out
     case measure => simp [intOf]; omega
    ·have hiq' : ¬ (i : Int) < (q : Int) := by omega
     have hy0 : y = 0 := by rw [EY.out]; exact HZC.out i (by omega)
     have t1 : ((c : Int) + (x : Int)) % 65536 = (z : Int) := by have := HST.out; omega
     have t2 : ((c : Int) + (x : Int)) / 65536 = (d : Int) := by have := HST.out; omega
     clear hy0
     go_wp2_with (at_builtin; refine app_u32 wr 23 Tryz.underlying23 rfl (.tmp 44) (.tmp 47) rfl w.heap.size (.slice xa i xc) i _ rfl hO.out (z : Int) wr.heap.size rfl rfl (by omega) hz ?_; intro v5 w5 hown5 hg5 hz5; have HO5 := Lib.hid hown5; obtain ⟨g5, q5, rfl⟩ := hown5.succ; have HB5 := Lib.hid (hB.out.trans (below_grown hO.out hg5 w.heap.size (Nat.le_refl _) hz)); clear hown5 hg5)
     go_roundw
     case rel =>
      refine ⟨i + 1, _, q5, by omega, by go_num, rfl, (by first | (rw [← ED.out, t2]; done) | rw [← ED.out]), ?_, HB5.out⟩
      show w5.owns _ _ _ _ _ _
      rw [List.range_succ, List.map_append, List.map_append]
      show w5.owns _ _ _ _ _ (_ ++ [u32V (dig 65536 (A + C) i)])
      rw [← EZ.out]
      exact HO5.out
     case measure => simp [intOf]; omega
   ·have hip' : ¬ (i : Int) < (p : Int) := by omega
    have hx0 : x = 0 := by rw [EX.out]; exact HZA.out i (by omega)
    by_cases hiq : i < q
    ·obtain ⟨b2, off2, rfl, hbl2, hy0⟩ := HC.out i hiq
     have hy : wr.cell? ⟨b2, off2 + i, none⟩ = some (.int .u32 (y : Int)) := (hB.out.cell (p := ⟨b2, off2 + i, none⟩) hbl2).trans (by rw [hy0, EY.out])
     have hiq' : (i : Int) < (q : Int) := by omega
     have t1 : ((c : Int) + (y : Int)) % 65536 = (z : Int) := by have := HST.out; omega
     have t2 : ((c : Int) + (y : Int)) / 65536 = (d : Int) := by have := HST.out; omega
     clear hy0 hx0 hor
     go_wp2_with (at_builtin; refine app_u32 wr 23 Tryz.underlying23 rfl (.tmp 44) (.tmp 47) rfl w.heap.size (.slice xa i xc) i _ rfl hO.out (z : Int) wr.heap.size rfl rfl (by omega) hz ?_; intro v5 w5 hown5 hg5 hz5; have HO5 := Lib.hid hown5; obtain ⟨g5, q5, rfl⟩ := hown5.succ; have HB5 := Lib.hid (hB.out.trans (below_grown hO.out hg5 w.heap.size (Nat.le_refl _) hz)); clear hown5 hg5)
     go_roundw
     case rel =>
      refine ⟨i + 1, _, q5, by omega, by go_num, rfl, (by first | (rw [← ED.out, t2]; done) | rw [← ED.out]), ?_, HB5.out⟩
      show w5.owns _ _ _ _ _ _
      rw [List.range_succ, List.map_append, List.map_append]
      show w5.owns _ _ _ _ _ (_ ++ [u32V (dig 65536 (A + C) i)])
      rw [← EZ.out]
      exact HO5.out
     case measure => simp [intOf]; omega
    ·have hiq' : ¬ (i : Int) < (q : Int) := by omega
     have hy0 : y = 0 := by rw [EY.out]; exact HZC.out i (by omega)
     have hc0 : 0 < c := by omega
     have t0 : (0 : Int) < (c : Int) := by omega
     have t1 : (c : Int) % 65536 = (z : Int) := by have := HST.out; omega
     have t2 : (c : Int) / 65536 = (d : Int) := by have := HST.out; omega
     clear hy0 hx0 hor
     go_wp2_with (at_builtin; refine app_u32 wr 23 Tryz.underlying23 rfl (.tmp 44) (.tmp 47) rfl w.heap.size (.slice xa i xc) i _ rfl hO.out (z : Int) wr.heap.size rfl rfl (by omega) hz ?_; intro v5 w5 hown5 hg5 hz5; have HO5 := Lib.hid hown5; obtain ⟨g5, q5, rfl⟩ := hown5.succ; have HB5 := Lib.hid (hB.out.trans (below_grown hO.out hg5 w.heap.size (Nat.le_refl _) hz)); clear hown5 hg5)
     go_roundw
     case rel =>
      refine ⟨i + 1, _, q5, by omega, by go_num, rfl, (by first | (rw [← ED.out, t2]; done) | rw [← ED.out]), ?_, HB5.out⟩
      show w5.owns _ _ _ _ _ _
      rw [List.range_succ, List.map_append, List.map_append]
      show w5.owns _ _ _ _ _ (_ ++ [u32V (dig 65536 (A + C) i)])
      rw [← EZ.out]
      exact HO5.out
     case measure => simp [intOf]; omega
  ·obtain rfl : i = L := by omega
   have hip' : ¬ (i : Int) < (p : Int) := fun h => hlt (hmo.2 (.inl (by omega)))
   have hiq' : ¬ (i : Int) < (q : Int) := fun h => hlt (hmo.2 (.inr (.inl (by omega))))
   have hc0 : c = 0 := by
    rcases Nat.eq_zero_or_pos c with h | h
    ·exact h
    ·exact absurd (hmo.2 (.inr (.inr h))) hlt
   have t0 : ¬ (0 : Int) < (c : Int) := by omega
   clear hc0 hmo
   go_wp2
   rw [HP.out]
   exact ⟨_, rfl, rawH_num hO.out.reads HL.out, hB.out⟩
theorem hminus_any (A C : Nat) (hAC : C ≤ A) (va vb : Value) (w : World) (hA : World.numH w va A) (hC : World.numH w vb C) (hla : (hw A).length ≤ 4000) (hlc : (hw C).length ≤ 4000) :
  Calls Tryz.prog 104 #[va, vb] w (RawRet w (A - C) (hw A).length) := by
 obtain ⟨aa, p, ca, hp, rfl, hca, hma, hsa⟩ := numH_words hA
 obtain ⟨ab, q, cb, hq, rfl, hcb, hmb, hsb⟩ := numH_words hC
 clear hA hC
 rw [← hp] at hla ⊢
 rw [← hq] at hlc
 obtain ⟨D, rfl⟩ : ∃ D, A = C + D := ⟨A - C, by omega⟩
 rw [show C + D - C = D by omega]
 clear hAC
 have HA := Lib.hid hsa
 have HC := Lib.hid hsb
 have HZC : Hid (∀ k, q ≤ k → dig 65536 C k = 0) := fun k hk => hw_high C k (by omega)
 clear hp hq hsa hsb
 obtain ⟨HPOST, hpost⟩ : ∃ R, R = RawRet w D p := ⟨_, rfl⟩
 rw [← hpost]
 have HP := Lib.hid hpost
 clear hpost
 go_enter Tryz.func104, Tryz.ntmps104
 go_wp2_with fail
 go_loopw [5, 6, 7] (fun sv cv iv wr => ∃ (i : Nat) (xa : Option Addr) (xc : Nat), i ≤ p ∧ iv = .int .i64 (i : Int) ∧ sv = .slice xa i xc ∧ cv = .int .u32 (carry 65536 C D i : Int) ∧ Hid (wr.owns w.heap.size 22 1 (.slice xa i xc) i (((List.range i).map (dig 65536 D)).map u32V)) ∧ Hid (Below w.heap.size w wr)) (fun _ _ iv _ => p - (intOf iv).toNat)
 case atStart => exact ⟨0, none, 0, Nat.zero_le _, rfl, rfl, by rw [carry_zero]; rfl, owns_nil _ _ _, Below.refl _ w⟩
 case round =>
  obtain ⟨i, xa, xc, hi, rfl, rfl, rfl, hO, hB⟩ := hrel
  have hz := hB.out.size
  by_cases hlt : i < p
  ·have HST := Lib.hid (add_step (B := 65536) (by omega) C D i)
   have hd1 := hw_dig (C + D) i
   have hd2 := hw_dig C i
   have hd3 := hw_dig D i
   have hc1 := carry_le (B := 65536) (by omega) C D i
   have hc2 := carry_le (B := 65536) (by omega) C D (i + 1)
   obtain ⟨b, off, rfl, hbl, hx0⟩ := HA.out i hlt
   obtain ⟨x, ex⟩ : ∃ x, x = dig 65536 (C + D) i := ⟨_, rfl⟩
   obtain ⟨y, ey⟩ : ∃ x, x = dig 65536 C i := ⟨_, rfl⟩
   obtain ⟨z, ez⟩ : ∃ x, x = dig 65536 D i := ⟨_, rfl⟩
   obtain ⟨c, ec⟩ : ∃ x, x = carry 65536 C D i := ⟨_, rfl⟩
   obtain ⟨d, ed⟩ : ∃ x, x = carry 65536 C D (i + 1) := ⟨_, rfl⟩
   rw [← ex, ← ey, ← ez, ← ec, ← ed] at HST
   rw [← ex] at hd1 hx0
   rw [← ey] at hd2
   rw [← ez] at hd3
   rw [← ec] at hc1 ⊢
   rw [← ed] at hc2
   have EY := Lib.hid ey
   have EZ := Lib.hid ez
   have ED := Lib.hid ed
   have hx : wr.cell? ⟨b, off + i, none⟩ = some (.int .u32 (x : Int)) := (hB.out.cell (p := ⟨b, off + i, none⟩) hbl).trans hx0
   clear ex ey ez ec ed hx0
   by_cases hiq : i < q
   ·obtain ⟨b2, off2, rfl, hbl2, hy0⟩ := HC.out i hiq
    have hy : wr.cell? ⟨b2, off2 + i, none⟩ = some (.int .u32 (y : Int)) := (hB.out.cell (p := ⟨b2, off2 + i, none⟩) hbl2).trans (by rw [hy0, EY.out])
    have hiq' : (i : Int) < (q : Int) := by omega
    clear hy0
    rcases (show d = 0 ∨ d = 1 by omega) with rfl | rfl
    ·have t1 : decide ((x : Int) < (c : Int) + (y : Int)) = false := decide_eq_false (by have := HST.out; omega)
     have t1' : ¬ (x : Int) < (c : Int) + (y : Int) := by have := HST.out; omega
     have t2 : (x : Int) - ((c : Int) + (y : Int)) = (z : Int) := by have := HST.out; omega
     go_wp2_with (at_builtin; refine app_u32 wr 23 Tryz.underlying23 rfl (.tmp 36) (.tmp 40) rfl w.heap.size (.slice xa i xc) i _ rfl hO.out (z : Int) wr.heap.size rfl rfl (by omega) hz ?_; intro v5 w5 hown5 hg5 hz5; have HO5 := Lib.hid hown5; obtain ⟨g5, q5, rfl⟩ := hown5.succ; have HB5 := Lib.hid (hB.out.trans (below_grown hO.out hg5 w.heap.size (Nat.le_refl _) hz)); clear hown5 hg5)
     go_roundw
     case rel =>
      refine ⟨i + 1, _, q5, by omega, by go_num, rfl, (by rw [← ED.out]; rfl), ?_, HB5.out⟩
      show w5.owns _ _ _ _ _ _
      rw [List.range_succ, List.map_append, List.map_append]
      show w5.owns _ _ _ _ _ (_ ++ [u32V (dig 65536 D i)])
      rw [← EZ.out]
      exact HO5.out
     case measure => simp [intOf]; omega
    ·have t1 : decide ((x : Int) < (c : Int) + (y : Int)) = true := decide_eq_true (by have := HST.out; omega)
     have t1' : (x : Int) < (c : Int) + (y : Int) := by have := HST.out; omega
     have t2 : (x : Int) + 65536 - ((c : Int) + (y : Int)) = (z : Int) := by have := HST.out; omega
     go_wp2_with (at_builtin; refine app_u32 wr 23 Tryz.underlying23 rfl (.tmp 36) (.tmp 40) rfl w.heap.size (.slice xa i xc) i _ rfl hO.out (z : Int) wr.heap.size rfl rfl (by omega) hz ?_; intro v5 w5 hown5 hg5 hz5; have HO5 := Lib.hid hown5; obtain ⟨g5, q5, rfl⟩ := hown5.succ; have HB5 := Lib.hid (hB.out.trans (below_grown hO.out hg5 w.heap.size (Nat.le_refl _) hz)); clear hown5 hg5)
     go_roundw
     case rel =>
      refine ⟨i + 1, _, q5, by omega, by go_num, rfl, (by rw [← ED.out]; rfl), ?_, HB5.out⟩
      show w5.owns _ _ _ _ _ _
      rw [List.range_succ, List.map_append, List.map_append]
      show w5.owns _ _ _ _ _ (_ ++ [u32V (dig 65536 D i)])
      rw [← EZ.out]
      exact HO5.out
     case measure => simp [intOf]; omega
   ·have hiq' : ¬ (i : Int) < (q : Int) := by omega
    have hy0 : y = 0 := by rw [EY.out]; exact HZC.out i (by omega)
    subst hy0
    rcases (show d = 0 ∨ d = 1 by omega) with rfl | rfl
    ·have t1 : decide ((x : Int) < (c : Int)) = false := decide_eq_false (by have := HST.out; omega)
     have t1' : ¬ (x : Int) < (c : Int) := by have := HST.out; omega
     have t2 : (x : Int) - ((c : Int)) = (z : Int) := by have := HST.out; omega
     go_wp2_with (at_builtin; refine app_u32 wr 23 Tryz.underlying23 rfl (.tmp 36) (.tmp 40) rfl w.heap.size (.slice xa i xc) i _ rfl hO.out (z : Int) wr.heap.size rfl rfl (by omega) hz ?_; intro v5 w5 hown5 hg5 hz5; have HO5 := Lib.hid hown5; obtain ⟨g5, q5, rfl⟩ := hown5.succ; have HB5 := Lib.hid (hB.out.trans (below_grown hO.out hg5 w.heap.size (Nat.le_refl _) hz)); clear hown5 hg5)
     go_roundw
     case rel =>
      refine ⟨i + 1, _, q5, by omega, by go_num, rfl, (by rw [← ED.out]; rfl), ?_, HB5.out⟩
      show w5.owns _ _ _ _ _ _
      rw [List.range_succ, List.map_append, List.map_append]
      show w5.owns _ _ _ _ _ (_ ++ [u32V (dig 65536 D i)])
      rw [← EZ.out]
      exact HO5.out
     case measure => simp [intOf]; omega
    ·have t1 : decide ((x : Int) < (c : Int)) = true := decide_eq_true (by have := HST.out; omega)
     have t1' : (x : Int) < (c : Int) := by have := HST.out; omega
     have t2 : (x : Int) + 65536 - ((c : Int)) = (z : Int) := by have := HST.out; omega
     go_wp2_with (at_builtin; refine app_u32 wr 23 Tryz.underlying23 rfl (.tmp 36) (.tmp 40) rfl w.heap.size (.slice xa i xc) i _ rfl hO.out (z : Int) wr.heap.size rfl rfl (by omega) hz ?_; intro v5 w5 hown5 hg5 hz5; have HO5 := Lib.hid hown5; obtain ⟨g5, q5, rfl⟩ := hown5.succ; have HB5 := Lib.hid (hB.out.trans (below_grown hO.out hg5 w.heap.size (Nat.le_refl _) hz)); clear hown5 hg5)
     go_roundw
     case rel =>
      refine ⟨i + 1, _, q5, by omega, by go_num, rfl, (by rw [← ED.out]; rfl), ?_, HB5.out⟩
      show w5.owns _ _ _ _ _ _
      rw [List.range_succ, List.map_append, List.map_append]
      show w5.owns _ _ _ _ _ (_ ++ [u32V (dig 65536 D i)])
      rw [← EZ.out]
      exact HO5.out
     case measure => simp [intOf]; omega
  ·obtain rfl : i = p := by omega
   go_wp2
   rw [HP.out]
   exact ⟨_, rfl, hO.out.reads, hB.out⟩
end
/- The reference's numbers with signs: without zeros at the end. -/
section
open Go.RowKit Go.Shelf Go.WideNum
def SRet (w : World) (s : Bool) (n : Nat) (e : Ending) (w' : World) : Prop := ∃ v, e = .returned (.agg #[.bool s, v]) ∧ World.numH w' v n ∧ Below w.heap.size w w'
def SRetO (w : World) (s : Bool) (n : Nat) (e : Ending) (w' : World) : Prop := ∃ v, e = .returned (.agg #[.bool s, v]) ∧ w'.owns w.heap.size 22 1 v (hw n).length ((hw n).map u32V) ∧ Below w.heap.size w w'
theorem SRetO.ret {w w' : World} {s : Bool} {n : Nat} {e : Ending} (h : SRetO w s n e w') : SRet w s n e w' := by
 obtain ⟨v, h1, h2, h3⟩ := h
 exact ⟨v, h1, h2.reads, h3⟩
theorem num_cells {W : World} {g : Nat} {s : Bool} {v : Value} {T : TypeId} (h : W.heap[g]? = some (.cells #[.bool s, v] T)) :
  W.cell? ⟨g, 0, none⟩ = some (.bool s) ∧ W.cell? ⟨g, 1, none⟩ = some v ∧ W.frozen? ⟨g, 0, none⟩ = false ∧ W.frozen? ⟨g, 1, none⟩ = false := by
 refine ⟨by rw [cell_of_row W g 0 _ T (0, 0) h]; rfl, by rw [cell_of_row W g 1 _ T (0, 0) h]; rfl, by simp [World.frozen?, h], by simp [World.frozen?, h]⟩
theorem num_set {W : World} {g : Nat} {u0 u1 : Value} {T : TypeId} (h : W.heap[g]? = some (.cells #[u0, u1] T)) (x y : Value) :
  ((W.setCell ⟨g, 0, none⟩ x).setCell ⟨g, 1, none⟩ y).heap[g]? = some (.cells #[x, y] T) := by
 simp [World.setCell, Array.getElem?_modify, h]
def noInt (cs : Array Value) : Prop := ∀ u ∈ cs, ∀ z, u ≠ .int .u32 z
theorem reads_other {W W' : World} {B p : Nat} {v : Value} {l : List Nat} {cs : Array Value} {T : TypeId} (h : W.reads B v (l.map u32V)) (hp : W.heap[p]? = some (.cells cs T)) (hcs : noInt cs) (hW : ∀ b, b ≠ p → W'.heap[b]? = W.heap[b]?) : W'.reads B v (l.map u32V) := by
 obtain ⟨a, cap, hv, hn, hz, hmx, hc⟩ := h
 refine ⟨a, cap, hv, hn, hz, hmx, fun j u hj => ?_⟩
 obtain ⟨b, off, ha, hB, hcell⟩ := hc j u hj
 refine ⟨b, off, ha, hB, ?_⟩
 have hne : b ≠ p := by
  rintro rfl
  rw [cell_of_row W _ _ _ _ (0, 0) hp] at hcell
  obtain ⟨z, _, rfl⟩ := List.mem_map.1 (List.mem_of_getElem? hj)
  exact hcs _ (Array.mem_of_getElem? hcell) _ rfl
 exact (World.cell?_of_block (a := ⟨b, off + j, none⟩) (hW b hne)).trans hcell
theorem noInt_num (s : Bool) (a : Option Addr) (n c : Nat) : noInt #[.bool s, .slice a n c] := by
 intro u hu z e
 subst e
 simp at hu
theorem two_other {W : World} {p : Nat} (x y : Value) : ∀ b, b ≠ p → ((W.setCell ⟨p, 0, none⟩ x).setCell ⟨p, 1, none⟩ y).heap[b]? = W.heap[b]? := by
 intro b h
 simp [World.setCell, Array.getElem?_modify, h, h.symm, Ne.symm h]
theorem numH_set {W : World} {p n : Nat} {v : Value} {s : Bool} {a : Option Addr} {k c : Nat} {T : TypeId} (h : World.numH W v n) (hp : W.heap[p]? = some (.cells #[.bool s, .slice a k c] T)) (x y : Value) :
  World.numH ((W.setCell ⟨p, 0, none⟩ x).setCell ⟨p, 1, none⟩ y) v n := by
 have h1 := reads_other h hp (noInt_num s a k c) (two_other x y)
 have e : ((W.setCell ⟨p, 0, none⟩ x).setCell ⟨p, 1, none⟩ y).heap.size = W.heap.size := by simp
 show World.reads _ _ _ _
 rw [e]; exact h1
theorem rawH_words {w : World} {v : Value} {n L : Nat} (h : World.rawH w v n L) : ∃ (a : Option Addr) (c : Nat), v = .slice a L c ∧ L ≤ c ∧ c ≤ maxLen ∧
  ∀ k, k < L → ∃ b off, a = some ⟨b, off, none⟩ ∧ b < w.heap.size ∧ w.cell? ⟨b, off + k, none⟩ = some (.int .u32 (dig 65536 n k : Int)) := by
 have h : w.reads _ _ _ := h
 obtain ⟨a, c, rfl, hc, hm, hs⟩ := reads_u32 h
 simp only [List.length_map, List.length_range] at hc ⊢
 exact ⟨a, c, rfl, hc, hm, fun k hk => hs k _ (by simp [hk])⟩
theorem hw_top {n k : Nat} (h : (hw n).length = k + 1) : dig 65536 n k ≠ 0 := by
 have h1 := words_trimmed (B := 65536) (by omega) n n (Nat.le_refl _)
 have h2 : (hw n).getLast? = some (dig 65536 n k) := by
  rw [List.getLast?_eq_getElem?, h, Nat.add_sub_cancel]
  exact hw_get n k (by omega)
 exact h1 _ h2
theorem rawH_take {w : World} {a : Option Addr} {n L c M : Nat} (h : World.rawH w (.slice a L c) n L) (hM : M = (hw n).length) (hML : M ≤ L) : World.numH w (.slice a M c) n := by
 subst hM
 obtain ⟨a', c', e, hn, hc, hm, hs⟩ := h
 injection e with e1 _ e3
 subst e1 e3
 simp only [List.length_map, List.length_range] at hc
 refine ⟨a, c, by simp, hn, by simp; omega, hm, fun j u hj => ?_⟩
 rw [List.getElem?_map] at hj
 rcases Nat.lt_or_ge j (hw n).length with h1 | h1
 ·rw [hw_get n j h1] at hj
  refine hs j u ?_
  rw [List.getElem?_map, List.getElem?_map, List.getElem?_range (by omega)]
  exact hj
 ·rw [List.getElem?_eq_none h1] at hj; cases hj
theorem htrim_own (s : Bool) (n L : Nat) (hn : n < 65536 ^ L) (hL : L ≤ 10000) (v : Value) (w : World) (hv : World.rawH w v n L) :
  Calls Tryz.prog 65 #[.agg #[.bool s, v]] w (SRetO w (s && decide (n ≠ 0)) n) := by
 obtain ⟨i0, hi0, hiz, hiz1, hizb⟩ := info_parts infoU32
 have HV : Hid (World.rawH w v n L) := hv
 obtain ⟨a, c, rfl, hc, hm, hs⟩ := rawH_words hv
 clear hv
 have hM := hw_len_le hn
 have hZ : decide (n ≠ 0) = decide (0 < (hw n).length) := by
  have := words_len0 (B := 65536) (by omega) n
  unfold hw
  congr 1
  apply propext
  omega
 rw [hZ]
 obtain ⟨M, eM⟩ : ∃ M, M = (hw n).length := ⟨_, rfl⟩
 rw [← eM] at hM ⊢
 have HE := Lib.hid eM
 have HS := Lib.hid hs
 obtain ⟨S, hS⟩ : ∃ S, S = (s && decide (0 < M)) := ⟨_, rfl⟩
 rw [← hS]
 have HSS := Lib.hid hS
 have hc' : (L : Int) ≤ (c : Int) := by omega
 have HMX := Lib.hid hm
 clear hS hs hZ eM hn hc hm
 obtain ⟨HPOST, hpost⟩ : ∃ R, R = SRetO w S n := ⟨_, rfl⟩
 rw [← hpost]
 have HP := Lib.hid hpost
 clear hpost
 obtain ⟨W0, hW0⟩ : ∃ W0, W0 = (w.alloc (.cells #[.bool s, .slice a L c] 72)).alloc (.cells #[.bool false, .slice none 0 0] 72) := ⟨_, rfl⟩
 have g0 : W0.heap[w.heap.size]? = some (.cells #[.bool s, .slice a L c] 72) := by rw [hW0, Below.heap_alloc _ _ _ (by simp)]; exact heap_alloc_new w _
 have g1 : W0.heap[w.heap.size + 1]? = some (.cells #[.bool false, .slice none 0 0] 72) := by rw [hW0]; exact alloc_last _ _ (by simp)
 have hb0 : Below w.heap.size w W0 := by rw [hW0]; exact (((Below.refl _ w).alloc (Nat.le_refl _) _).alloc (by simp) _)
 have hz0 : W0.heap.size = w.heap.size + 1 + 1 := by rw [hW0]; simp
 have HB0 := Lib.hid hb0
 have HG1 := Lib.hid g1
 obtain ⟨c00, c01, f00, f01⟩ := num_cells g0
 have HZ0 := Lib.hid hz0
 have HW0 := Lib.hid hW0
 clear hb0 g0 g1 hz0 hW0
 go_enter Tryz.func65, Tryz.ntmps65
 go_upto_region 1 with (fail)
 rw [← HW0.out]
 go_wp2_with fail
 go_loop [3] (fun kv => ∃ k : Nat, M ≤ k ∧ k ≤ L ∧ kv = .int .i64 (k : Int)) (fun kv => (intOf kv).toNat)
 case atStart => exact ⟨L, hM, Nat.le_refl _, rfl⟩
 case round =>
  obtain ⟨k, hk1, hk2, rfl⟩ := hrel
  by_cases hlt : M < k
  ·obtain ⟨j, rfl⟩ : ∃ j, k = j + 1 := ⟨k - 1, by omega⟩
   have hz : dig 65536 n j = 0 := hw_high n j (by rw [← HE.out]; omega)
   obtain ⟨b, off, rfl, hbl, hx0⟩ := HS.out j (by omega)
   rw [hz] at hx0
   have hx : W0.cell? ⟨b, off + j, none⟩ = some (.int .u32 0) := (HB0.out.cell (p := ⟨b, off + j, none⟩) hbl).trans hx0
   clear hx0 hz
   go_wp2_with fail
   go_round
   case rel => exact ⟨j, by omega, by omega, by go_num⟩
   case measure => simp [intOf]
  ·obtain rfl : k = M := by omega
   have hpost2 : Hid (∀ (v' : Value) (w5 : World), w5.owns w.heap.size 22 1 v' (0 + ((hw n).map u32V).length) ([] ++ (hw n).map u32V) → World.numH w5 v' n) := fun v' w5 h => by
    have := h.reads
    rwa [List.nil_append] at this
   have hread : Hid (∀ W : World, Below w.heap.size w W → World.numH W (.slice a k c) n) := fun W hb => numH_below (rawH_take HV.out HE.out hk2) hb
   have hstop : k = 0 ∨ ∃ (j x b off : Nat), k = j + 1 ∧ x ≠ 0 ∧ a = some ⟨b, off, none⟩ ∧ W0.cell? ⟨b, off + j, none⟩ = some (.int .u32 (x : Int)) := by
    rcases Nat.eq_zero_or_pos k with h0 | h0
    ·exact .inl h0
    ·obtain ⟨j, rfl⟩ : ∃ j, k = j + 1 := ⟨k - 1, by omega⟩
     obtain ⟨b, off, e1, hbl, hx0⟩ := HS.out j (by omega)
     exact .inr ⟨j, _, b, off, rfl, hw_top HE.out.symm, e1, (HB0.out.cell (p := ⟨b, off + j, none⟩) hbl).trans hx0⟩
   have hz2 := HZ0.out
   have hk0 : (0 : Int) ≤ (k : Int) := by omega
   have hkc : (k : Int) ≤ (c : Int) := by omega
   have hwz : w.heap.size < W0.heap.size := by omega
   have HO : Hid ((W0.alloc (.cells #[] 22)).drew.owns W0.heap.size 22 1 (.slice (some ⟨W0.heap.size, 0, none⟩) 0 0) 0 []) := ⟨rfl, .inr ⟨W0.heap.size, 0, #[], (0, 0), rfl, Nat.le_refl _, heap_alloc_new W0 _, okFz_zero _, Nat.le_refl _, Nat.zero_le _, rfl, rfl⟩⟩
   have HBD : Hid (Below W0.heap.size W0 (W0.alloc (.cells #[] 22)).drew) := ((Below.refl W0.heap.size W0).alloc (Nat.le_refl _) _).drew
   have HBA : Hid (Below w.heap.size w (W0.alloc (.cells #[] 22)).drew) := (HB0.out.alloc (by omega) _).drew
   have HBS : Hid (W0.heap.size ≤ (W0.alloc (.cells #[] 22)).drew.heap.size) := HBD.out.size
   have HK0 := Lib.hid (HBD.out.cell (p := ⟨w.heap.size, 0, none⟩) hwz)
   have HK1 := Lib.hid (HBD.out.cell (p := ⟨w.heap.size, 1, none⟩) hwz)
   have HL1 : Hid (0 + ((hw n).map u32V).length ≤ maxLen) := by show _ ≤ _; rw [List.length_map, ← HE.out]; unfold maxLen; omega
   have HL2 : Hid ((0 + ((hw n).map u32V).length) * 4 ≤ 140737488355328) := by show _ ≤ _; rw [List.length_map, ← HE.out]; omega
   have HR := hread
   have HF : Hid (∀ (v' : Value) (w6 : World), w6.owns W0.heap.size 22 1 v' (0 + ((hw n).map u32V).length) ([] ++ (hw n).map u32V) → World.grownBy (W0.alloc (.cells #[] 22)).drew w6 (Value.slice (some ⟨W0.heap.size, 0, none⟩) 0 0).ownBlock →
     ∃ a6 n6 c6, v' = .slice a6 n6 c6 ∧ Below w.heap.size w w6 ∧ w6.owns W0.heap.size 22 1 v' (hw n).length ((hw n).map u32V) ∧ w6.cell? ⟨w.heap.size, 0, none⟩ = W0.cell? ⟨w.heap.size, 0, none⟩ ∧ w6.cell? ⟨w.heap.size, 1, none⟩ = W0.cell? ⟨w.heap.size, 1, none⟩ ∧ w6.heap[w.heap.size + 1]? = some (.cells #[.bool false, .slice none 0 0] 72)) := by
    intro v' w6 ho hg
    have hb := HBD.out.trans (below_grown HO.out hg W0.heap.size (Nat.le_refl _) HBS.out)
    have hr : w6.owns W0.heap.size 22 1 v' (hw n).length ((hw n).map u32V) := by
     rw [List.nil_append, List.length_map, Nat.zero_add] at ho
     exact ho
    obtain ⟨a6, c6, e6⟩ := reads_len hr.reads
    exact ⟨a6, _, c6, e6, HB0.out.trans (hb.mono (by omega)), hr, hb.cell (p := ⟨w.heap.size, 0, none⟩) hwz, hb.cell (p := ⟨w.heap.size, 1, none⟩) hwz, (hb.block _ (by omega)).trans HG1.out⟩
   have HZ1 : Hid (w.heap.size + 1 < W0.heap.size) := by show _ < _; omega
   have HZ2 : Hid (w.heap.size ≤ W0.heap.size) := by show _ ≤ _; omega
   clear hread hz2 hwz
   rcases hstop with h0 | ⟨j, x, b, off, hj, hx, rfl, hcell⟩
   ·subst h0
    have hSt : Hid (S = false) := by show _ = _; rw [HSS.out]; simp
    have t0 : ¬ (0 : Int) < ((0 : Nat) : Int) := by omega
    clear hk1
    go_wp2_with fail
    cases s with
    | true =>
     refine wp_region_line (fun w' => w'.cell? ⟨w.heap.size, 0, none⟩ = some (.bool true) ∧ w'.cell? ⟨w.heap.size, 1, none⟩ = some (.slice a L c)) 13 (by kernel_rfl) ⟨c00, c01⟩ (fun hHeld => ?_)
     refine tkT 0 (v := ?_) rfl rfl ?_ ?_
     rotate_left
     ·(intro wq hSq; (try dsimp only at hSq); go_simp; try with_reducible rfl)
     try simp only [Act.put, List.setIfInBounds_toArray, List.set_cons_zero, List.set_cons_succ]
     refine tkT 1 (v := ?_) rfl rfl ?_ ?_
     rotate_left
     ·(intro wq hSq; (try dsimp only at hSq); go_simp; try with_reducible rfl)
     try simp only [Act.put, List.setIfInBounds_toArray, List.set_cons_zero, List.set_cons_succ]
     refine tkT 2 (v := ?_) rfl rfl ?_ ?_
     rotate_left
     ·(intro wq hSq; (try dsimp only at hSq); go_simp; try with_reducible rfl)
     try simp only [Act.put, List.setIfInBounds_toArray, List.set_cons_zero, List.set_cons_succ]
     refine tkT 3 (v := ?_) rfl rfl ?_ ?_
     rotate_left
     ·(intro wq hSq; (try dsimp only at hSq); go_simp; try with_reducible rfl)
     try simp only [Act.put, List.setIfInBounds_toArray, List.set_cons_zero, List.set_cons_succ]
     refine tkT 4 (v := ?_) rfl rfl ?_ ?_
     rotate_left
     ·(intro wq hSq; (try dsimp only at hSq); go_simp; try with_reducible rfl)
     try simp only [Act.put, List.setIfInBounds_toArray, List.set_cons_zero, List.set_cons_succ]
     refine tkT 5 (v := ?_) rfl rfl ?_ ?_
     rotate_left
     ·(intro wq hSq; (try dsimp only at hSq); go_simp; try with_reducible rfl)
     try simp only [Act.put, List.setIfInBounds_toArray, List.set_cons_zero, List.set_cons_succ]
     refine tkT 7 (v := ?_) rfl rfl ?_ ?_
     rotate_left
     ·(intro wq hSq; (try dsimp only at hSq); go_simp; try with_reducible rfl)
     try simp only [Act.put, List.setIfInBounds_toArray, List.set_cons_zero, List.set_cons_succ]
     refine tkT 8 (v := ?_) rfl rfl ?_ ?_
     rotate_left
     ·(intro wq hSq; (try dsimp only at hSq); go_simp; try with_reducible rfl)
     try simp only [Act.put, List.setIfInBounds_toArray, List.set_cons_zero, List.set_cons_succ]
     refine tkT 9 (v := ?_) rfl rfl ?_ ?_
     rotate_left
     ·(intro wq hSq; (try dsimp only at hSq); go_simp; try with_reducible rfl)
     try simp only [Act.put, List.setIfInBounds_toArray, List.set_cons_zero, List.set_cons_succ]
     refine tkT 10 (v := ?_) rfl rfl ?_ ?_
     rotate_left
     ·(intro wq hSq; (try dsimp only at hSq); go_simp; try with_reducible rfl)
     try simp only [Act.put, List.setIfInBounds_toArray, List.set_cons_zero, List.set_cons_succ]
     refine wpAnyT_step 6 (by kernel_rfl) rfl (fun K hK => ?_)
     go_simp
     refine hK.out _ _ ⟨HK0.out.trans c00, HK1.out.trans c01⟩ (fun hHeld2 => ?_)
     clear hK K hHeld
     try simp only [Act.put, List.setIfInBounds_toArray, List.set_cons_zero, List.set_cons_succ]
     refine wpAnyT_step 11 (by kernel_rfl) rfl (fun K hK => ?_)
     refine step_append_reads (by rfl) (.tmp 26) (.tmp 30) 23 (by rfl) W0.heap.size 22 i0 (.int .u32 0) 4 Tryz.underlying23 hi0 hiz hiz1 hizb rfl (.slice (some ⟨W0.heap.size, 0, none⟩) 0 0) 0 [] (by rfl) HO.out _ (.slice a 0 c) ((hw n).map u32V) (by rfl) (HR.out _ HBA.out) (one_u32 _) HL1.out HL2.out HBS.out ?_
     intro v6 w6 hown6 hg6
     obtain ⟨a6, n6, c6, rfl, hb6, hn6, hk0, hk1, hg16⟩ := HF.out v6 w6 hown6 hg6
     clear hown6 hg6
     refine hK.out _ _ ⟨hk0.trans c00, hk1.trans c01⟩ (fun hHeld3 => ?_)
     have HB6 := Lib.hid hb6
     have HN6 := Lib.hid hn6
     have HG6 := Lib.hid hg16
     clear hb6 hn6 hg16 hk0 hk1
     clear hK K hHeld2
     try simp only [Act.put, List.setIfInBounds_toArray, List.set_cons_zero, List.set_cons_succ]
     refine tkT 12 (v := ?_) rfl rfl ?_ ?_
     rotate_left
     ·(intro wq hSq; (try dsimp only at hSq); go_simp; try with_reducible rfl)
     try simp only [Act.put, List.setIfInBounds_toArray, List.set_cons_zero, List.set_cons_succ]
     refine wpAnyT_last (by kernel_rfl) (by kernel_rfl) rfl (fun K hK => ?_)
     obtain ⟨d0, d1, fz0, fz1⟩ := num_cells HG6.out
     go_simp
     refine hK.out _ _ ?_
     clear hK K hHeld3 d0 d1 fz0 fz1
     have m2 := num_set HG6.out (.bool false) (.slice a6 n6 c6)
     have hb9 : Below w.heap.size w ((w6.setCell ⟨w.heap.size + 1, 0, none⟩ (.bool false)).setCell ⟨w.heap.size + 1, 1, none⟩ (.slice a6 n6 c6)) := (HB6.out.setCell (by simp) _).setCell (by simp) _
     have hn9 : World.owns ((w6.setCell ⟨w.heap.size + 1, 0, none⟩ (.bool false)).setCell ⟨w.heap.size + 1, 1, none⟩ (.slice a6 n6 c6)) w.heap.size 22 1 (.slice a6 n6 c6) (hw n).length ((hw n).map u32V) := ((World.owns.setCell HN6.out HZ1.out _).setCell HZ1.out _).mono HZ2.out
     obtain ⟨d20, d21, -, -⟩ := num_cells m2
     clear m2
     generalize (w6.setCell ⟨w.heap.size + 1, 0, none⟩ (.bool false)).setCell ⟨w.heap.size + 1, 1, none⟩ (.slice a6 n6 c6) = W9 at d20 d21 hb9 hn9 ⊢
     have HB9 := Lib.hid hb9
     have HN9 := Lib.hid hn9
     clear hb9 hn9
     go_wp2
     rw [HP.out]
     exact bodyPost_ret (v := .agg #[.bool false, .slice a6 n6 c6]) (by simp [results, Tryz.results65, go_sem, d20, d21]) rfl ⟨.slice a6 n6 c6, by rw [hSt.out], HN9.out, HB9.out⟩
    | false =>
     refine wp_region_line (fun w' => w'.cell? ⟨w.heap.size, 0, none⟩ = some (.bool false) ∧ w'.cell? ⟨w.heap.size, 1, none⟩ = some (.slice a L c)) 13 (by kernel_rfl) ⟨c00, c01⟩ (fun hHeld => ?_)
     refine tkT 0 (v := ?_) rfl rfl ?_ ?_
     rotate_left
     ·(intro wq hSq; (try dsimp only at hSq); go_simp; try with_reducible rfl)
     try simp only [Act.put, List.setIfInBounds_toArray, List.set_cons_zero, List.set_cons_succ]
     refine tkT 1 (v := ?_) rfl rfl ?_ ?_
     rotate_left
     ·(intro wq hSq; (try dsimp only at hSq); go_simp; try with_reducible rfl)
     try simp only [Act.put, List.setIfInBounds_toArray, List.set_cons_zero, List.set_cons_succ]
     refine tkT 2 (v := ?_) rfl rfl ?_ ?_
     rotate_left
     ·(intro wq hSq; (try dsimp only at hSq); go_simp; try with_reducible rfl)
     try simp only [Act.put, List.setIfInBounds_toArray, List.set_cons_zero, List.set_cons_succ]
     refine wpAnyT_take 3 (v := undef) (by kernel_rfl) rfl (by kernel_rfl) (by decide) rfl (by kernel_rfl) (by kernel_rfl) (fun _ _ _ h => h) (Or.inr ⟨by rfl, rfl⟩) (by assumption) ?_
     try simp only [Act.put, List.setIfInBounds_toArray, List.set_cons_zero, List.set_cons_succ]
     refine wpAnyT_take 4 (v := undef) (by kernel_rfl) rfl (by kernel_rfl) (by decide) rfl (by kernel_rfl) (by kernel_rfl) (fun _ _ _ h => h) (Or.inr ⟨by rfl, rfl⟩) (by assumption) ?_
     try simp only [Act.put, List.setIfInBounds_toArray, List.set_cons_zero, List.set_cons_succ]
     refine tkT 5 (v := ?_) rfl rfl ?_ ?_
     rotate_left
     ·(intro wq hSq; (try dsimp only at hSq); go_simp; try with_reducible rfl)
     try simp only [Act.put, List.setIfInBounds_toArray, List.set_cons_zero, List.set_cons_succ]
     refine tkT 7 (v := ?_) rfl rfl ?_ ?_
     rotate_left
     ·(intro wq hSq; (try dsimp only at hSq); go_simp; try with_reducible rfl)
     try simp only [Act.put, List.setIfInBounds_toArray, List.set_cons_zero, List.set_cons_succ]
     refine tkT 8 (v := ?_) rfl rfl ?_ ?_
     rotate_left
     ·(intro wq hSq; (try dsimp only at hSq); go_simp; try with_reducible rfl)
     try simp only [Act.put, List.setIfInBounds_toArray, List.set_cons_zero, List.set_cons_succ]
     refine tkT 9 (v := ?_) rfl rfl ?_ ?_
     rotate_left
     ·(intro wq hSq; (try dsimp only at hSq); go_simp; try with_reducible rfl)
     try simp only [Act.put, List.setIfInBounds_toArray, List.set_cons_zero, List.set_cons_succ]
     refine tkT 10 (v := ?_) rfl rfl ?_ ?_
     rotate_left
     ·(intro wq hSq; (try dsimp only at hSq); go_simp; try with_reducible rfl)
     try simp only [Act.put, List.setIfInBounds_toArray, List.set_cons_zero, List.set_cons_succ]
     refine wpAnyT_step 6 (by kernel_rfl) rfl (fun K hK => ?_)
     go_simp
     refine hK.out _ _ ⟨HK0.out.trans c00, HK1.out.trans c01⟩ (fun hHeld2 => ?_)
     clear hK K hHeld
     try simp only [Act.put, List.setIfInBounds_toArray, List.set_cons_zero, List.set_cons_succ]
     refine wpAnyT_step 11 (by kernel_rfl) rfl (fun K hK => ?_)
     refine step_append_reads (by rfl) (.tmp 26) (.tmp 30) 23 (by rfl) W0.heap.size 22 i0 (.int .u32 0) 4 Tryz.underlying23 hi0 hiz hiz1 hizb rfl (.slice (some ⟨W0.heap.size, 0, none⟩) 0 0) 0 [] (by rfl) HO.out _ (.slice a 0 c) ((hw n).map u32V) (by rfl) (HR.out _ HBA.out) (one_u32 _) HL1.out HL2.out HBS.out ?_
     intro v6 w6 hown6 hg6
     obtain ⟨a6, n6, c6, rfl, hb6, hn6, hk0, hk1, hg16⟩ := HF.out v6 w6 hown6 hg6
     clear hown6 hg6
     refine hK.out _ _ ⟨hk0.trans c00, hk1.trans c01⟩ (fun hHeld3 => ?_)
     have HB6 := Lib.hid hb6
     have HN6 := Lib.hid hn6
     have HG6 := Lib.hid hg16
     clear hb6 hn6 hg16 hk0 hk1
     clear hK K hHeld2
     try simp only [Act.put, List.setIfInBounds_toArray, List.set_cons_zero, List.set_cons_succ]
     refine tkT 12 (v := ?_) rfl rfl ?_ ?_
     rotate_left
     ·(intro wq hSq; (try dsimp only at hSq); go_simp; try with_reducible rfl)
     try simp only [Act.put, List.setIfInBounds_toArray, List.set_cons_zero, List.set_cons_succ]
     refine wpAnyT_last (by kernel_rfl) (by kernel_rfl) rfl (fun K hK => ?_)
     obtain ⟨d0, d1, fz0, fz1⟩ := num_cells HG6.out
     go_simp
     refine hK.out _ _ ?_
     clear hK K hHeld3 d0 d1 fz0 fz1
     have m2 := num_set HG6.out (.bool false) (.slice a6 n6 c6)
     have hb9 : Below w.heap.size w ((w6.setCell ⟨w.heap.size + 1, 0, none⟩ (.bool false)).setCell ⟨w.heap.size + 1, 1, none⟩ (.slice a6 n6 c6)) := (HB6.out.setCell (by simp) _).setCell (by simp) _
     have hn9 : World.owns ((w6.setCell ⟨w.heap.size + 1, 0, none⟩ (.bool false)).setCell ⟨w.heap.size + 1, 1, none⟩ (.slice a6 n6 c6)) w.heap.size 22 1 (.slice a6 n6 c6) (hw n).length ((hw n).map u32V) := ((World.owns.setCell HN6.out HZ1.out _).setCell HZ1.out _).mono HZ2.out
     obtain ⟨d20, d21, -, -⟩ := num_cells m2
     clear m2
     generalize (w6.setCell ⟨w.heap.size + 1, 0, none⟩ (.bool false)).setCell ⟨w.heap.size + 1, 1, none⟩ (.slice a6 n6 c6) = W9 at d20 d21 hb9 hn9 ⊢
     have HB9 := Lib.hid hb9
     have HN9 := Lib.hid hn9
     clear hb9 hn9
     go_wp2
     rw [HP.out]
     exact bodyPost_ret (v := .agg #[.bool false, .slice a6 n6 c6]) (by simp [results, Tryz.results65, go_sem, d20, d21]) rfl ⟨.slice a6 n6 c6, by rw [hSt.out], HN9.out, HB9.out⟩
   ·have t0 : (0 : Int) < (k : Int) := by omega
    have t1 : ((x : Int) == 0) = false := by rw [beq_eq_false_iff_ne]; omega
    have hj2 : (k : Int) - 1 = (j : Int) := by omega
    have hjL : j < L := by omega
    have hSt : Hid (S = s) := by show _ = _; rw [HSS.out, decide_eq_true (by omega), Bool.and_true]
    clear hx hj hk1
    go_wp2_with fail
    cases s with
    | true =>
     refine wp_region_line (fun w' => w'.cell? ⟨w.heap.size, 0, none⟩ = some (.bool true) ∧ w'.cell? ⟨w.heap.size, 1, none⟩ = some (.slice (some ⟨b, off, none⟩) L c)) 13 (by kernel_rfl) ⟨c00, c01⟩ (fun hHeld => ?_)
     refine tkT 0 (v := ?_) rfl rfl ?_ ?_
     rotate_left
     ·(intro wq hSq; (try dsimp only at hSq); go_simp; try with_reducible rfl)
     try simp only [Act.put, List.setIfInBounds_toArray, List.set_cons_zero, List.set_cons_succ]
     refine tkT 1 (v := ?_) rfl rfl ?_ ?_
     rotate_left
     ·(intro wq hSq; (try dsimp only at hSq); go_simp; try with_reducible rfl)
     try simp only [Act.put, List.setIfInBounds_toArray, List.set_cons_zero, List.set_cons_succ]
     refine tkT 2 (v := ?_) rfl rfl ?_ ?_
     rotate_left
     ·(intro wq hSq; (try dsimp only at hSq); go_simp; try with_reducible rfl)
     try simp only [Act.put, List.setIfInBounds_toArray, List.set_cons_zero, List.set_cons_succ]
     refine tkT 3 (v := ?_) rfl rfl ?_ ?_
     rotate_left
     ·(intro wq hSq; (try dsimp only at hSq); go_simp; try with_reducible rfl)
     try simp only [Act.put, List.setIfInBounds_toArray, List.set_cons_zero, List.set_cons_succ]
     refine tkT 4 (v := ?_) rfl rfl ?_ ?_
     rotate_left
     ·(intro wq hSq; (try dsimp only at hSq); go_simp; try with_reducible rfl)
     try simp only [Act.put, List.setIfInBounds_toArray, List.set_cons_zero, List.set_cons_succ]
     refine tkT 5 (v := ?_) rfl rfl ?_ ?_
     rotate_left
     ·(intro wq hSq; (try dsimp only at hSq); go_simp; try with_reducible rfl)
     try simp only [Act.put, List.setIfInBounds_toArray, List.set_cons_zero, List.set_cons_succ]
     refine tkT 7 (v := ?_) rfl rfl ?_ ?_
     rotate_left
     ·(intro wq hSq; (try dsimp only at hSq); go_simp; try with_reducible rfl)
     try simp only [Act.put, List.setIfInBounds_toArray, List.set_cons_zero, List.set_cons_succ]
     refine tkT 8 (v := ?_) rfl rfl ?_ ?_
     rotate_left
     ·(intro wq hSq; (try dsimp only at hSq); go_simp; try with_reducible rfl)
     try simp only [Act.put, List.setIfInBounds_toArray, List.set_cons_zero, List.set_cons_succ]
     refine tkT 9 (v := ?_) rfl rfl ?_ ?_
     rotate_left
     ·(intro wq hSq; (try dsimp only at hSq); go_simp; try with_reducible rfl)
     try simp only [Act.put, List.setIfInBounds_toArray, List.set_cons_zero, List.set_cons_succ]
     refine tkT 10 (v := ?_) rfl rfl ?_ ?_
     rotate_left
     ·(intro wq hSq; (try dsimp only at hSq); go_simp; try with_reducible rfl)
     try simp only [Act.put, List.setIfInBounds_toArray, List.set_cons_zero, List.set_cons_succ]
     refine wpAnyT_step 6 (by kernel_rfl) rfl (fun K hK => ?_)
     go_simp
     refine hK.out _ _ ⟨HK0.out.trans c00, HK1.out.trans c01⟩ (fun hHeld2 => ?_)
     clear hK K hHeld
     try simp only [Act.put, List.setIfInBounds_toArray, List.set_cons_zero, List.set_cons_succ]
     refine wpAnyT_step 11 (by kernel_rfl) rfl (fun K hK => ?_)
     refine step_append_reads (by rfl) (.tmp 26) (.tmp 30) 23 (by rfl) W0.heap.size 22 i0 (.int .u32 0) 4 Tryz.underlying23 hi0 hiz hiz1 hizb rfl (.slice (some ⟨W0.heap.size, 0, none⟩) 0 0) 0 [] (by rfl) HO.out _ (.slice (some ⟨b, off, none⟩) k c) ((hw n).map u32V) (by rfl) (HR.out _ HBA.out) (one_u32 _) HL1.out HL2.out HBS.out ?_
     intro v6 w6 hown6 hg6
     obtain ⟨a6, n6, c6, rfl, hb6, hn6, hk0, hk1, hg16⟩ := HF.out v6 w6 hown6 hg6
     clear hown6 hg6
     refine hK.out _ _ ⟨hk0.trans c00, hk1.trans c01⟩ (fun hHeld3 => ?_)
     have HB6 := Lib.hid hb6
     have HN6 := Lib.hid hn6
     have HG6 := Lib.hid hg16
     clear hb6 hn6 hg16 hk0 hk1
     clear hK K hHeld2
     try simp only [Act.put, List.setIfInBounds_toArray, List.set_cons_zero, List.set_cons_succ]
     refine tkT 12 (v := ?_) rfl rfl ?_ ?_
     rotate_left
     ·(intro wq hSq; (try dsimp only at hSq); go_simp; try with_reducible rfl)
     try simp only [Act.put, List.setIfInBounds_toArray, List.set_cons_zero, List.set_cons_succ]
     refine wpAnyT_last (by kernel_rfl) (by kernel_rfl) rfl (fun K hK => ?_)
     obtain ⟨d0, d1, fz0, fz1⟩ := num_cells HG6.out
     go_simp
     refine hK.out _ _ ?_
     clear hK K hHeld3 d0 d1 fz0 fz1
     have m2 := num_set HG6.out (.bool true) (.slice a6 n6 c6)
     have hb9 : Below w.heap.size w ((w6.setCell ⟨w.heap.size + 1, 0, none⟩ (.bool true)).setCell ⟨w.heap.size + 1, 1, none⟩ (.slice a6 n6 c6)) := (HB6.out.setCell (by simp) _).setCell (by simp) _
     have hn9 : World.owns ((w6.setCell ⟨w.heap.size + 1, 0, none⟩ (.bool true)).setCell ⟨w.heap.size + 1, 1, none⟩ (.slice a6 n6 c6)) w.heap.size 22 1 (.slice a6 n6 c6) (hw n).length ((hw n).map u32V) := ((World.owns.setCell HN6.out HZ1.out _).setCell HZ1.out _).mono HZ2.out
     obtain ⟨d20, d21, -, -⟩ := num_cells m2
     clear m2
     generalize (w6.setCell ⟨w.heap.size + 1, 0, none⟩ (.bool true)).setCell ⟨w.heap.size + 1, 1, none⟩ (.slice a6 n6 c6) = W9 at d20 d21 hb9 hn9 ⊢
     have HB9 := Lib.hid hb9
     have HN9 := Lib.hid hn9
     clear hb9 hn9
     go_wp2
     rw [HP.out]
     exact bodyPost_ret (v := .agg #[.bool true, .slice a6 n6 c6]) (by simp [results, Tryz.results65, go_sem, d20, d21]) rfl ⟨.slice a6 n6 c6, by rw [hSt.out], HN9.out, HB9.out⟩
    | false =>
     refine wp_region_line (fun w' => w'.cell? ⟨w.heap.size, 0, none⟩ = some (.bool false) ∧ w'.cell? ⟨w.heap.size, 1, none⟩ = some (.slice (some ⟨b, off, none⟩) L c)) 13 (by kernel_rfl) ⟨c00, c01⟩ (fun hHeld => ?_)
     refine tkT 0 (v := ?_) rfl rfl ?_ ?_
     rotate_left
     ·(intro wq hSq; (try dsimp only at hSq); go_simp; try with_reducible rfl)
     try simp only [Act.put, List.setIfInBounds_toArray, List.set_cons_zero, List.set_cons_succ]
     refine tkT 1 (v := ?_) rfl rfl ?_ ?_
     rotate_left
     ·(intro wq hSq; (try dsimp only at hSq); go_simp; try with_reducible rfl)
     try simp only [Act.put, List.setIfInBounds_toArray, List.set_cons_zero, List.set_cons_succ]
     refine tkT 2 (v := ?_) rfl rfl ?_ ?_
     rotate_left
     ·(intro wq hSq; (try dsimp only at hSq); go_simp; try with_reducible rfl)
     try simp only [Act.put, List.setIfInBounds_toArray, List.set_cons_zero, List.set_cons_succ]
     refine wpAnyT_take 3 (v := undef) (by kernel_rfl) rfl (by kernel_rfl) (by decide) rfl (by kernel_rfl) (by kernel_rfl) (fun _ _ _ h => h) (Or.inr ⟨by rfl, rfl⟩) (by assumption) ?_
     try simp only [Act.put, List.setIfInBounds_toArray, List.set_cons_zero, List.set_cons_succ]
     refine wpAnyT_take 4 (v := undef) (by kernel_rfl) rfl (by kernel_rfl) (by decide) rfl (by kernel_rfl) (by kernel_rfl) (fun _ _ _ h => h) (Or.inr ⟨by rfl, rfl⟩) (by assumption) ?_
     try simp only [Act.put, List.setIfInBounds_toArray, List.set_cons_zero, List.set_cons_succ]
     refine tkT 5 (v := ?_) rfl rfl ?_ ?_
     rotate_left
     ·(intro wq hSq; (try dsimp only at hSq); go_simp; try with_reducible rfl)
     try simp only [Act.put, List.setIfInBounds_toArray, List.set_cons_zero, List.set_cons_succ]
     refine tkT 7 (v := ?_) rfl rfl ?_ ?_
     rotate_left
     ·(intro wq hSq; (try dsimp only at hSq); go_simp; try with_reducible rfl)
     try simp only [Act.put, List.setIfInBounds_toArray, List.set_cons_zero, List.set_cons_succ]
     refine tkT 8 (v := ?_) rfl rfl ?_ ?_
     rotate_left
     ·(intro wq hSq; (try dsimp only at hSq); go_simp; try with_reducible rfl)
     try simp only [Act.put, List.setIfInBounds_toArray, List.set_cons_zero, List.set_cons_succ]
     refine tkT 9 (v := ?_) rfl rfl ?_ ?_
     rotate_left
     ·(intro wq hSq; (try dsimp only at hSq); go_simp; try with_reducible rfl)
     try simp only [Act.put, List.setIfInBounds_toArray, List.set_cons_zero, List.set_cons_succ]
     refine tkT 10 (v := ?_) rfl rfl ?_ ?_
     rotate_left
     ·(intro wq hSq; (try dsimp only at hSq); go_simp; try with_reducible rfl)
     try simp only [Act.put, List.setIfInBounds_toArray, List.set_cons_zero, List.set_cons_succ]
     refine wpAnyT_step 6 (by kernel_rfl) rfl (fun K hK => ?_)
     go_simp
     refine hK.out _ _ ⟨HK0.out.trans c00, HK1.out.trans c01⟩ (fun hHeld2 => ?_)
     clear hK K hHeld
     try simp only [Act.put, List.setIfInBounds_toArray, List.set_cons_zero, List.set_cons_succ]
     refine wpAnyT_step 11 (by kernel_rfl) rfl (fun K hK => ?_)
     refine step_append_reads (by rfl) (.tmp 26) (.tmp 30) 23 (by rfl) W0.heap.size 22 i0 (.int .u32 0) 4 Tryz.underlying23 hi0 hiz hiz1 hizb rfl (.slice (some ⟨W0.heap.size, 0, none⟩) 0 0) 0 [] (by rfl) HO.out _ (.slice (some ⟨b, off, none⟩) k c) ((hw n).map u32V) (by rfl) (HR.out _ HBA.out) (one_u32 _) HL1.out HL2.out HBS.out ?_
     intro v6 w6 hown6 hg6
     obtain ⟨a6, n6, c6, rfl, hb6, hn6, hk0, hk1, hg16⟩ := HF.out v6 w6 hown6 hg6
     clear hown6 hg6
     refine hK.out _ _ ⟨hk0.trans c00, hk1.trans c01⟩ (fun hHeld3 => ?_)
     have HB6 := Lib.hid hb6
     have HN6 := Lib.hid hn6
     have HG6 := Lib.hid hg16
     clear hb6 hn6 hg16 hk0 hk1
     clear hK K hHeld2
     try simp only [Act.put, List.setIfInBounds_toArray, List.set_cons_zero, List.set_cons_succ]
     refine tkT 12 (v := ?_) rfl rfl ?_ ?_
     rotate_left
     ·(intro wq hSq; (try dsimp only at hSq); go_simp; try with_reducible rfl)
     try simp only [Act.put, List.setIfInBounds_toArray, List.set_cons_zero, List.set_cons_succ]
     refine wpAnyT_last (by kernel_rfl) (by kernel_rfl) rfl (fun K hK => ?_)
     obtain ⟨d0, d1, fz0, fz1⟩ := num_cells HG6.out
     go_simp
     refine hK.out _ _ ?_
     clear hK K hHeld3 d0 d1 fz0 fz1
     have m2 := num_set HG6.out (.bool false) (.slice a6 n6 c6)
     have hb9 : Below w.heap.size w ((w6.setCell ⟨w.heap.size + 1, 0, none⟩ (.bool false)).setCell ⟨w.heap.size + 1, 1, none⟩ (.slice a6 n6 c6)) := (HB6.out.setCell (by simp) _).setCell (by simp) _
     have hn9 : World.owns ((w6.setCell ⟨w.heap.size + 1, 0, none⟩ (.bool false)).setCell ⟨w.heap.size + 1, 1, none⟩ (.slice a6 n6 c6)) w.heap.size 22 1 (.slice a6 n6 c6) (hw n).length ((hw n).map u32V) := ((World.owns.setCell HN6.out HZ1.out _).setCell HZ1.out _).mono HZ2.out
     obtain ⟨d20, d21, -, -⟩ := num_cells m2
     clear m2
     generalize (w6.setCell ⟨w.heap.size + 1, 0, none⟩ (.bool false)).setCell ⟨w.heap.size + 1, 1, none⟩ (.slice a6 n6 c6) = W9 at d20 d21 hb9 hn9 ⊢
     have HB9 := Lib.hid hb9
     have HN9 := Lib.hid hn9
     clear hb9 hn9
     go_wp2
     rw [HP.out]
     exact bodyPost_ret (v := .agg #[.bool false, .slice a6 n6 c6]) (by simp [results, Tryz.results65, go_sem, d20, d21]) rfl ⟨.slice a6 n6 c6, by rw [hSt.out], HN9.out, HB9.out⟩
theorem htrim_any (s : Bool) (n L : Nat) (hn : n < 65536 ^ L) (hL : L ≤ 10000) (v : Value) (w : World) (hv : World.rawH w v n L) :
  Calls Tryz.prog 65 #[.agg #[.bool s, v]] w (SRet w (s && decide (n ≠ 0)) n) := (htrim_own s n L hn hL v w hv).mono fun _ _ h => h.ret
end
/- The reference's numbers with signs: a small integer; the negative; the integer of a form. -/
section
open Go.RowKit Go.Shelf Go.WideNum
theorem two_raw (n : Nat) (hn : n < 4294967296) (W : World) : World.rawH (W.alloc (.cells #[.int .u32 ((n % 65536 : Nat) : Int), .int .u32 ((n / 65536 : Nat) : Int)] 22)) (.slice (some ⟨W.heap.size, 0, none⟩) 2 2) n 2 := by
 have e : ((List.range 2).map (dig 65536 n)).map u32V = [.int .u32 ((n % 65536 : Nat) : Int), .int .u32 ((n / 65536 : Nat) : Int)] := by
  have h1 : n / 65536 % 65536 = n / 65536 := by omega
  simp [List.range_succ, dig, u32V, h1]
 have h := reads_alloc_new W [.int .u32 ((n % 65536 : Nat) : Int), .int .u32 ((n / 65536 : Nat) : Int)] 22 2 (by simp) (by unfold maxLen; omega)
 show World.reads _ _ _ _
 rw [e]
 simpa using h
theorem word_any (n : Nat) (hn : n < 4294967296) (w : World) : Calls Tryz.prog 88 #[.int .u32 (n : Int)] w (SRet w false n) := by
 obtain ⟨x, hx⟩ : ∃ x, x = n % 65536 := ⟨_, rfl⟩
 obtain ⟨y, hy⟩ : ∃ x, x = n / 65536 := ⟨_, rfl⟩
 have hraw := two_raw n hn (w.alloc (.cells #[.bool false, .slice none 0 0] 72))
 rw [← hx, ← hy, show (w.alloc (.cells #[.bool false, .slice none 0 0] 72)).heap.size = w.heap.size + 1 by simp] at hraw
 have hb1 : Below w.heap.size w ((w.alloc (.cells #[.bool false, .slice none 0 0] 72)).alloc (.cells #[.int .u32 (x : Int), .int .u32 (y : Int)] 22)) := (((Below.refl _ w).alloc (Nat.le_refl _) _).alloc (by simp) _)
 have hg1 : ((w.alloc (.cells #[.bool false, .slice none 0 0] 72)).alloc (.cells #[.int .u32 (x : Int), .int .u32 (y : Int)] 22)).heap[w.heap.size]? = some (.cells #[.bool false, .slice none 0 0] 72) := by rw [Below.heap_alloc _ _ _ (by simp)]; exact heap_alloc_new w _
 have HR := Lib.hid hraw
 have HB1 := Lib.hid hb1
 have HG1 := Lib.hid hg1
 have t1 : (n : Int) % 65536 = (x : Int) := by omega
 have t2 : (n : Int) / 65536 = (y : Int) := by omega
 obtain ⟨HPOST, hpost⟩ : ∃ R, R = SRet w false n := ⟨_, rfl⟩
 rw [← hpost]
 have HP := Lib.hid hpost
 have hn2 : (n : Int) < 4294967296 := by omega
 have HN : Hid (n < 65536 ^ 2) := by show n < 65536 ^ 2; omega
 clear hpost hx hy hraw hb1 hg1 hn
 go_enter Tryz.func88, Tryz.ntmps88
 go_wp2_with fail
 (with_reducible refine (htrim_any false n 2 HN.out (by omega) _ _ HR.out).mono ?_)
 rintro e w5 ⟨v5, rfl, hn5, hb5⟩
 obtain ⟨a5, c5, rfl⟩ := reads_len hn5
 obtain ⟨L5, hL5⟩ : ∃ L, L = ((hw n).map u32V).length := ⟨_, rfl⟩
 rw [← hL5] at hn5 ⊢
 clear hL5
 have hg5 := (hb5.block w.heap.size (by simp; omega)).trans HG1.out
 have HB5 := Lib.hid (HB1.out.trans (hb5.mono HB1.out.size))
 have HN5 := Lib.hid hn5
 have HG5 := Lib.hid hg5
 obtain ⟨d0, d1, fz0, fz1⟩ := num_cells hg5
 have hlt5 := lt_of_heap hg5
 clear hn5 hb5 hg5 t1 t2
 go_wp2
 have m2 := num_set HG5.out (.bool false) (.slice a5 L5 c5)
 have hb9 : Below w.heap.size w ((w5.setCell ⟨w.heap.size, 0, none⟩ (.bool false)).setCell ⟨w.heap.size, 1, none⟩ (.slice a5 L5 c5)) := (HB5.out.setCell (by simp) _).setCell (by simp) _
 have hn9 := numH_set HN5.out HG5.out (.bool false) (.slice a5 L5 c5)
 obtain ⟨d20, d21, -, -⟩ := num_cells m2
 clear m2
 generalize (w5.setCell ⟨w.heap.size, 0, none⟩ (.bool false)).setCell ⟨w.heap.size, 1, none⟩ (.slice a5 L5 c5) = W9 at d20 d21 hb9 hn9 ⊢
 rw [HP.out]
 exact bodyPost_ret (v := .agg #[.bool false, .slice a5 L5 c5]) (by simp [results, Tryz.results88, go_sem, d20, d21]) rfl ⟨.slice a5 L5 c5, rfl, hn9, hb9⟩
theorem negative_any (s : Bool) (n L : Nat) (hn : n < 65536 ^ L) (hL : L ≤ 10000) (v : Value) (w : World) (hv : World.rawH w v n L) : Calls Tryz.prog 89 #[.agg #[.bool s, v]] w (SRet w (!s && decide (n ≠ 0)) n) := by
 obtain ⟨a, c, hva, -, -, -⟩ := rawH_words hv
 subst hva
 have HV : Hid (World.rawH w (.slice a L c) n L) := hv
 clear hv
 obtain ⟨W0, hW0⟩ : ∃ W0, W0 = (w.alloc (.cells #[.bool s, .slice a L c] 72)).alloc (.cells #[.bool false, .slice none 0 0] 72) := ⟨_, rfl⟩
 have g0 : W0.heap[w.heap.size]? = some (.cells #[.bool s, .slice a L c] 72) := by rw [hW0, Below.heap_alloc _ _ _ (by simp)]; exact heap_alloc_new w _
 have g1 : W0.heap[w.heap.size + 1]? = some (.cells #[.bool false, .slice none 0 0] 72) := by rw [hW0]; exact alloc_last _ _ (by simp)
 have hb0 : Below w.heap.size w W0 := by rw [hW0]; exact (((Below.refl _ w).alloc (Nat.le_refl _) _).alloc (by simp) _)
 have HB0 := Lib.hid hb0
 have HG1 := Lib.hid g1
 obtain ⟨c00, c01, f00, f01⟩ := num_cells g0
 have HW0 := Lib.hid hW0
 have HN := Lib.hid hn
 have HL := Lib.hid hL
 obtain ⟨S, hS⟩ : ∃ S, S = (!s && decide (n ≠ 0)) := ⟨_, rfl⟩
 rw [← hS]
 have htr := fun W => fun h => htrim_any (!s) n L hn hL (.slice a L c) W h
 rw [← hS] at htr
 have HTR := Lib.hid htr
 obtain ⟨HPOST, hpost⟩ : ∃ R, R = SRet w S n := ⟨_, rfl⟩
 rw [← hpost]
 have HP := Lib.hid hpost
 clear hb0 g0 g1 hW0 hn hL hS htr hpost
 go_enter Tryz.func89, Tryz.ntmps89
 go_upto_region 1 with (fail)
 rw [← HW0.out]
 go_wp2_with fail
 (with_reducible refine (HTR.out _ (rawH_below HV.out HB0.out)).mono ?_)
 rintro e w5 ⟨v5, rfl, hn5, hb5⟩
 obtain ⟨a5, c5, rfl⟩ := reads_len hn5
 obtain ⟨L5, hL5⟩ : ∃ L, L = ((hw n).map u32V).length := ⟨_, rfl⟩
 rw [← hL5] at hn5 ⊢
 clear hL5
 have hg5 := (hb5.block (w.heap.size + 1) (lt_of_heap HG1.out)).trans HG1.out
 have HB5 := Lib.hid (HB0.out.trans (hb5.mono HB0.out.size))
 have HN5 := Lib.hid hn5
 have HG5 := Lib.hid hg5
 obtain ⟨d0, d1, fz0, fz1⟩ := num_cells hg5
 clear hn5 hb5 hg5
 go_wp2
 have m2 := num_set HG5.out (.bool S) (.slice a5 L5 c5)
 have hb9 : Below w.heap.size w ((w5.setCell ⟨w.heap.size + 1, 0, none⟩ (.bool S)).setCell ⟨w.heap.size + 1, 1, none⟩ (.slice a5 L5 c5)) := (HB5.out.setCell (by simp) _).setCell (by simp) _
 have hn9 := numH_set HN5.out HG5.out (.bool S) (.slice a5 L5 c5)
 obtain ⟨d20, d21, -, -⟩ := num_cells m2
 clear m2
 generalize (w5.setCell ⟨w.heap.size + 1, 0, none⟩ (.bool S)).setCell ⟨w.heap.size + 1, 1, none⟩ (.slice a5 L5 c5) = W9 at d20 d21 hb9 hn9 ⊢
 rw [HP.out]
 exact bodyPost_ret (v := .agg #[.bool S, .slice a5 L5 c5]) (by simp [results, Tryz.results89, go_sem, d20, d21]) rfl ⟨.slice a5 L5 c5, rfl, hn9, hb9⟩
end
/- The reference's numbers with signs: the integer of a form. -/
section
open Go.RowKit Go.Shelf Go.WideNum
theorem num_set1 {W : World} {g : Nat} {u0 u1 : Value} {T : TypeId} (h : W.heap[g]? = some (.cells #[u0, u1] T)) (y : Value) :
  (W.setCell ⟨g, 1, none⟩ y).heap[g]? = some (.cells #[u0, y] T) := by
 simp [World.setCell, Array.getElem?_modify, h]
theorem cell_other {W : World} {g b o : Nat} (hb : b ≠ g) (y : Value) : (W.setCell ⟨g, o, none⟩ y).heap[b]? = W.heap[b]? := by
 simp [World.setCell, Array.getElem?_modify, Ne.symm hb]
theorem pow2 (q : Nat) : 65536 ^ q = 256 ^ (2 * q) := by rw [show (65536 : Nat) = 256 ^ 2 by rfl, ← Nat.pow_mul]
theorem hw_halves (n : Nat) : (hw n).length = ((words 256 n).length + 1) / 2 := by
 obtain ⟨N, hN⟩ : ∃ N, N = (words 256 n).length := ⟨_, rfl⟩
 rw [← hN]
 have h1 : n < 256 ^ N := by rw [hN]; exact words_vlt (by omega) n
 have h2 : (hw n).length ≤ (N + 1) / 2 := hw_len_le (by rw [pow2]; exact Nat.lt_of_lt_of_le h1 (Nat.pow_le_pow_right (by omega) (by omega)))
 rcases Nat.eq_zero_or_pos N with h0 | h0
 ·omega
 ·have h3 : 256 ^ (N - 1) ≤ n := by
   rcases Nat.lt_or_ge n (256 ^ (N - 1)) with h | h
   ·have := words_length (B := 256) (by omega) n (N - 1) h
    omega
   ·exact h
  have h4 : (N - 1) / 2 < (hw n).length := words_lenlt (B := 65536) (by omega) n _ (by rw [pow2]; exact Nat.le_trans (Nat.pow_le_pow_right (by omega) (by omega)) h3)
  omega
theorem dig_halves (n k : Nat) : dig 65536 n k = dig 256 n (2 * k) + 256 * dig 256 n (2 * k + 1) := by
 unfold dig
 rw [pow2, Nat.pow_succ, ← Nat.div_div_eq_div_mul]
 generalize n / 256 ^ (2 * k) = m
 omega
theorem in_any (neg : Bool) (s : ByteArray) (hv : validB neg s = true) (w : World) : Calls Tryz.prog 81 #[.agg #[.bool neg, .string s]] w (SRet w neg (numB s)) := by
 obtain ⟨-, hmag, -, hs⟩ := valid_spec neg s hv
 obtain ⟨n, hn⟩ : ∃ n, n = numB s := ⟨_, rfl⟩
 rw [← hn] at hmag ⊢
 have hlen : (words 256 n).length = s.size := by
  rw [← magL_length, ← hmag]; rfl
 have HBY : Hid (∀ i (h : i < s.size), (s[i].toNat) = dig 256 n (s.size - 1 - i)) := fun i h => by rw [hn]; exact byte_dig s.data.toList i h
 obtain ⟨N, hN⟩ : ∃ N, N = s.size := ⟨_, rfl⟩
 have hM := hw_halves n
 rw [hlen, ← hN] at hM
 have HNL : Hid (n < 256 ^ N) := by show _ < _; rw [hN, ← hlen]; exact words_vlt (by omega) n
 have HN := Lib.hid hN
 have HM := Lib.hid hM
 have hs2 : N ≤ 256 := by omega
 have hNI : (s.size : Int) = (N : Int) := by rw [hN]
 clear hv hmag hn hlen hN hM hs
 obtain ⟨HPOST, hpost⟩ : ∃ R, R = SRet w neg n := ⟨_, rfl⟩
 rw [← hpost]
 have HP := Lib.hid hpost
 clear hpost
 go_enter Tryz.func81, Tryz.ntmps81
 go_wp2_with fail
 go_loopw [4] (fun iv wr => ∃ (k : Nat) (xa : Option Addr) (xc : Nat), 2 * k ≤ N + 1 ∧ iv = .int .i64 ((N : Int) - 1 - 2 * (k : Int)) ∧ Hid (wr.heap[w.heap.size]? = some (.cells #[.bool neg, .string s] 40)) ∧ Hid (wr.heap[w.heap.size + 1]? = some (.cells #[.bool false, .slice none 0 0] 72)) ∧ Hid (wr.heap[w.heap.size + 1 + 1]? = some (.cells #[.bool neg, .slice xa k xc] 72)) ∧ Hid (wr.owns (w.heap.size + 1 + 1 + 1) 22 1 (.slice xa k xc) k (((List.range k).map (dig 65536 n)).map u32V)) ∧ Hid (Below w.heap.size w wr) ∧ w.heap.size + 1 + 1 + 1 ≤ wr.heap.size) (fun iv _ => (intOf iv + 2).toNat)
 case atStart =>
  refine ⟨0, none, 0, by omega, by simp, ?_, ?_, ?_, owns_nil _ _ _, ?_, by simp⟩
  ·show _ = _; rw [Below.heap_alloc _ _ _ (by simp; omega), Below.heap_alloc _ _ _ (by simp)]; exact heap_alloc_new w _
  ·show _ = _; rw [Below.heap_alloc _ _ _ (by simp)]; exact alloc_last _ _ (by simp)
  ·show _ = _; exact alloc_last _ _ (by simp)
  ·show Below _ _ _
   exact ((((Below.refl _ w).alloc (Nat.le_refl _) _).alloc (by simp) _).alloc (by simp; omega) _)
 case round =>
  obtain ⟨k, xa, xc, hk, rfl, hG0, hG1, hG2, hO, hB, hz⟩ := hrel
  obtain ⟨c00, c01, f00⟩ := num_cells hG0.out
  obtain ⟨c20, c21, f20, f21⟩ := num_cells hG2.out
  by_cases hlt : 2 * k < N
  ·obtain ⟨j, hj⟩ : ∃ j, j + 2 * k + 1 = N := ⟨N - 1 - 2 * k, by omega⟩
   rw [show (N : Int) - 1 - 2 * (k : Int) = (j : Int) by omega]
   have hNs := HN.out
   have hj1 : j < s.size := by omega
   have hj2 : (j : Int) < (s.size : Int) := by omega
   have hj0 : (0 : Int) ≤ (j : Int) := by omega
   have hbx := HBY.out j hj1
   rw [show s.size - 1 - j = 2 * k by omega] at hbx
   obtain ⟨x, ex⟩ : ∃ x, x = (s[j]'hj1).toNat := ⟨_, rfl⟩
   have hxx : ((s[j]'hj1).toNat : Int) = (x : Int) := by rw [ex]
   have hx256 : x < 256 := by rw [ex]; exact (s[j]'hj1).toNat_lt
   rw [← ex] at hbx
   have hz0 := dig_halves n k
   rw [← hbx] at hz0
   obtain ⟨z, ez⟩ : ∃ x, x = dig 65536 n k := ⟨_, rfl⟩
   rw [← ez] at hz0
   have EZ := Lib.hid ez
   clear ex ez hbx hNs
   by_cases hp : 0 < j
   ·obtain ⟨m, rfl⟩ : ∃ m, j = m + 1 := ⟨j - 1, by omega⟩
    have hm1 : m < s.size := by omega
    have hby := HBY.out m hm1
    have hNs := HN.out
    rw [show s.size - 1 - m = 2 * k + 1 by omega] at hby
    obtain ⟨y, ey⟩ : ∃ x, x = (s[m]'hm1).toNat := ⟨_, rfl⟩
    have hyy : ((s[m]'hm1).toNat : Int) = (y : Int) := by rw [ey]
    have hy256 : y < 256 := by rw [ey]; exact (s[m]'hm1).toNat_lt
    rw [← ey] at hby
    rw [← hby] at hz0
    have hm0 : (0 : Int) ≤ (m : Int) := by omega
    have hm2 : (m : Int) < (s.size : Int) := by omega
    have hm3 : ((m + 1 : Nat) : Int) - 1 = (m : Int) := by omega
    have hp2 : (0 : Int) < ((m + 1 : Nat) : Int) := by omega
    have t1 : (x : Int) + 256 * (y : Int) = (z : Int) := by omega
    have HJ := Lib.hid hj
    clear ey hby hNs hz0
    go_wp2_with (at_builtin; refine app_u32 wr 23 Tryz.underlying23 rfl (.tmp 34) (.tmp 36) rfl (w.heap.size + 1 + 1 + 1) (.slice xa k xc) k _ rfl hO.out (z : Int) wr.heap.size rfl rfl (by omega) hz ?_; intro v5 w5 hown5 hg5 hz5; have HO5 := Lib.hid hown5; obtain ⟨g5, q5, rfl⟩ := hown5.succ; have hb5 := below_grown hO.out hg5 (w.heap.size + 1 + 1 + 1) (Nat.le_refl _) hz; have HB5 := Lib.hid hb5; have K0 := Lib.hid ((hb5.block _ (by omega)).trans hG0.out); have K1 := Lib.hid ((hb5.block _ (by omega)).trans hG1.out); have hk2 := (hb5.block _ (by omega)).trans hG2.out; have K2 := Lib.hid hk2; obtain ⟨e20, e21, i20, i21⟩ := num_cells hk2; clear hown5 hg5 hb5 hk2)
    go_roundw
    case rel =>
     refine ⟨k + 1, some ⟨g5, 0, none⟩, q5, by omega, by first | (congr 1; omega) | go_num, ?_, ?_, ?_, ?_, ?_, ?_⟩
     ·show _ = _; rw [cell_other (by omega)]; exact K0.out
     ·show _ = _; rw [cell_other (by omega)]; exact K1.out
     ·show _ = _; exact num_set1 K2.out _
     ·show World.owns _ _ _ _ _ _ _
      refine World.owns.setCell ?_ (by simp) _
      rw [List.range_succ, List.map_append, List.map_append]
      show w5.owns _ _ _ _ _ (_ ++ [u32V (dig 65536 n k)])
      rw [← EZ.out]
      exact HO5.out
     ·show Below _ _ _
      exact (hB.out.trans (HB5.out.mono (by omega))).setCell (by simp; omega) _
     ·simp; omega
    case measure => first | (simp [intOf]; done) | (simp [intOf]; omega)
   ·obtain rfl : j = 0 := by omega
    have hd : dig 256 n (2 * k + 1) = 0 := dig_high (by omega) n _ (by rw [show 2 * k + 1 = N by omega]; exact HNL.out)
    rw [hd] at hz0
    obtain rfl : x = z := by omega
    clear hd hz0 hp
    go_wp2_with (at_builtin; refine app_u32 wr 23 Tryz.underlying23 rfl (.tmp 34) (.tmp 36) rfl (w.heap.size + 1 + 1 + 1) (.slice xa k xc) k _ rfl hO.out (x : Int) wr.heap.size rfl rfl (by omega) hz ?_; intro v5 w5 hown5 hg5 hz5; have HO5 := Lib.hid hown5; obtain ⟨g5, q5, rfl⟩ := hown5.succ; have hb5 := below_grown hO.out hg5 (w.heap.size + 1 + 1 + 1) (Nat.le_refl _) hz; have HB5 := Lib.hid hb5; have K0 := Lib.hid ((hb5.block _ (by omega)).trans hG0.out); have K1 := Lib.hid ((hb5.block _ (by omega)).trans hG1.out); have hk2 := (hb5.block _ (by omega)).trans hG2.out; have K2 := Lib.hid hk2; obtain ⟨e20, e21, i20, i21⟩ := num_cells hk2; clear hown5 hg5 hb5 hk2)
    go_roundw
    case rel =>
     refine ⟨k + 1, some ⟨g5, 0, none⟩, q5, by omega, by first | (congr 1; omega) | go_num, ?_, ?_, ?_, ?_, ?_, ?_⟩
     ·show _ = _; rw [cell_other (by omega)]; exact K0.out
     ·show _ = _; rw [cell_other (by omega)]; exact K1.out
     ·show _ = _; exact num_set1 K2.out _
     ·show World.owns _ _ _ _ _ _ _
      refine World.owns.setCell ?_ (by simp) _
      rw [List.range_succ, List.map_append, List.map_append]
      show w5.owns _ _ _ _ _ (_ ++ [u32V (dig 65536 n k)])
      rw [← EZ.out]
      exact HO5.out
     ·show Below _ _ _
      exact (hB.out.trans (HB5.out.mono (by omega))).setCell (by simp; omega) _
     ·simp; omega
    case measure => first | (simp [intOf]; done) | (simp [intOf]; omega)
  ·have h0 : ¬ (0 : Int) ≤ (N : Int) - 1 - 2 * (k : Int) := by omega
   obtain rfl : k = (hw n).length := by have := HM.out; omega
   obtain ⟨d10, d11, f10, f11⟩ := num_cells hG1.out
   have hN : World.numH wr (.slice xa (hw n).length xc) n := rawH_num hO.out.reads rfl
   obtain ⟨k, hk'⟩ : ∃ k, k = (hw n).length := ⟨_, rfl⟩
   rw [← hk'] at hO hG2 hN h0 c21 hk hlt ⊢
   have HN2 := Lib.hid hN
   clear hN hk'
   go_wp2
   have m2 := num_set hG1.out (.bool neg) (.slice xa k xc)
   have hb9 : Below w.heap.size w ((wr.setCell ⟨w.heap.size + 1, 0, none⟩ (.bool neg)).setCell ⟨w.heap.size + 1, 1, none⟩ (.slice xa k xc)) := (hB.out.setCell (by simp) _).setCell (by simp) _
   have hn9 := numH_set HN2.out hG1.out (.bool neg) (.slice xa k xc)
   obtain ⟨d20, d21, -, -⟩ := num_cells m2
   clear m2 d10 d11 f10 f11
   generalize (wr.setCell ⟨w.heap.size + 1, 0, none⟩ (.bool neg)).setCell ⟨w.heap.size + 1, 1, none⟩ (.slice xa k xc) = W9 at d20 d21 hb9 hn9 ⊢
   rw [HP.out]
   exact bodyPost_ret (v := .agg #[.bool neg, .slice xa k xc]) (by simp [results, Tryz.results81, go_sem, d20, d21]) rfl ⟨.slice xa k xc, rfl, hn9, hb9⟩
end
/- Wide integers: helpers and walks, in one text (WD5 WD6 WD7 WD8 WD9 WMa). -/
/- Walks: quotient and rest of two forms. -/
section
open Go.RowKit Go.Shelf Go.WideNum
theorem form_numZ (n : Nat) (neg : Bool) (v : Value) (w : World) (h : World.numR w v n) (hl : (wd n).length ≤ 2000) : ∃ b t, outZ (zOf neg n) = .agg #[.bool b, .string t] ∧
  Calls Tryz.prog 68 #[v, .bool neg] w fun e w' => e = .returned (.tuple #[.agg #[.bool b, .string t], .int .i64 (errZ (zOf neg n))]) ∧ Below w.heap.size w w' := by
 have hwide : ∃ b t, outB neg n = .agg #[.bool b, .string t] := by unfold outB emptyW wideV; split <;> exact ⟨_, _, rfl⟩
 obtain ⟨b, t, hbt⟩ := hwide
 refine ⟨b, t, by rw [← outB_z]; exact hbt, ?_⟩
 have := form_num n neg v w h hl
 unfold FormRet at this
 rwa [hbt, outE_z neg] at this
theorem two_forms (na : Bool) (sa : ByteArray) (nb : Bool) (sb : ByteArray) (W : World) (g : Nat) (h : W.heap[g]? = some (.cells #[.bool na, .string sa, .bool nb, .string sb] 40)) : World.forms W g [(na, sa), (nb, sb)] := by
 intro k x hk
 match k, hk with
 | 0, hk => injection hk with hk; subst hk; exact ⟨by rw [cell_of_row W _ _ _ _ (0, 0) h]; rfl, by rw [cell_of_row W _ _ _ _ (0, 0) h]; rfl⟩
 | 1, hk => injection hk with hk; subst hk; exact ⟨by rw [cell_of_row W _ _ _ _ (0, 0) h]; rfl, by rw [cell_of_row W _ _ _ _ (0, 0) h]; rfl⟩
 | k + 2, hk => simp at hk
theorem valid2_any (na : Bool) (sa : ByteArray) (nb : Bool) (sb : ByteArray) (hsa : sa.size ≤ maxLen) (hsb : sb.size ≤ maxLen) (W : World) (g : Nat) (h : W.heap[g]? = some (.cells #[.bool na, .string sa, .bool nb, .string sb] 40)) :
  Calls Tryz.prog 71 #[.slice (some ⟨g, 0, none⟩) 2 2] W fun e w' => e = .returned (.bool (validB na sa && validB nb sb)) ∧ Below W.heap.size W w' := by
 have := valid_any [(na, sa), (nb, sb)] g (by simp) (by simp [hsa, hsb]) W (two_forms na sa nb sb W g h) (lt_of_heap h)
 simpa using this
theorem wide_other {W : World} {p q : Nat} (h : p ≠ q) (neg : Bool) (s : ByteArray) : ((W.setCell ⟨q, 0, none⟩ (.bool neg)).setCell ⟨q, 1, none⟩ (.string s)).heap[p]? = W.heap[p]? := by
 rw [Below.heap_setCell _ _ _ _ h, Below.heap_setCell _ _ _ _ h]
theorem keep4 {W : World} {p q : Nat} {b c : Bool} {s t : ByteArray} (h2 : W.heap[p]? = some (.cells #[.bool b, .string s] 40)) (h3 : W.heap[q]? = some (.cells #[.bool c, .string t] 40)) :
  W.cell? ⟨p, 0, none⟩ = some (.bool b) ∧ W.cell? ⟨p, 1, none⟩ = some (.string s) ∧ W.cell? ⟨q, 0, none⟩ = some (.bool c) ∧ W.cell? ⟨q, 1, none⟩ = some (.string t) :=
 ⟨(wide_cells h2).1, (wide_cells h2).2.1, (wide_cells h3).1, (wide_cells h3).2.1⟩
theorem below_set2 {w W : World} {p : Nat} (hb : Below w.heap.size w W) (hp : w.heap.size ≤ p) (b : Bool) (s : ByteArray) : Below w.heap.size w ((W.setCell ⟨p, 0, none⟩ (.bool b)).setCell ⟨p, 1, none⟩ (.string s)) := (hb.setCell hp _).setCell hp _
end
/- Walks: the balanced remainder. -/
section
open Go.RowKit Go.Shelf Go.WideNum
def balZ (a m : Int) : Int := if m < 2 * (a % m) then a % m - m else a % m
def balF (na : Bool) (sa : ByteArray) (nb : Bool) (sb : ByteArray) : Value × Int :=
 if validB na sa && posB nb sb then (outZ (balZ (zV na sa) (zV nb sb)), errZ (balZ (zV na sa) (zV nb sb))) else (emptyW, 2)
theorem NumRet.belD {w w' : World} {e : Ending} {n : Nat} (h : NumRet w.drew n e w') : Below w.heap.size w w' := ((Below.refl w.heap.size w).drew).trans h.bel
theorem left_num (A k : Nat) (hk : k ≤ 100000) (va : Value) (w : World) (hA : World.numR w va A) (hla : (wd A).length ≤ 2000) (z : Int) (hz : z = (k : Int)) :
  Calls Tryz.prog 99 #[va, .int .i64 z] w (NumRet w (A * 2 ^ k)) := by subst hz; exact left_any A k hk va w hA hla
theorem wd_len_le {A C k : Nat} (h : A ≤ C) (hc : (wd C).length ≤ k) : (wd A).length ≤ k := by
 have h1 := words_length (B := 4294967296) (by omega) A (wd C).length (Nat.lt_of_le_of_lt h (wd_vlt C))
 unfold wd at *; omega
theorem wd_len_double {A k : Nat} (hc : (wd A).length ≤ k) : (wd (A * 2 ^ 1)).length ≤ k + 1 := by
 have h1 := wd_vlt A
 have h2 := words_length (B := 4294967296) (by omega) (A * 2 ^ 1) ((wd A).length + 1) (by rw [Nat.pow_succ]; omega)
 unfold wd at *; omega
theorem Balanced_any (na : Bool) (sa : ByteArray) (nb : Bool) (sb : ByteArray) (hsa : sa.size ≤ maxLen) (hsb : sb.size ≤ maxLen)
  (hD : validB na sa = true → validB nb sb = true → sb.size ≠ 0 → DivOK (numB sa) (numB sb)) (w : World) :
  Calls Tryz.prog 76 #[.agg #[.bool na, .string sa], .agg #[.bool nb, .string sb]] w fun e w' => e = .returned (.tuple #[(balF na sa nb sb).1, .int .i64 (balF na sa nb sb).2]) ∧ Below w.heap.size w w' := by
 obtain ⟨HPOST, hpost⟩ : ∃ X : Ending → World → Prop, X = fun e w' => e = .returned (.tuple #[(balF na sa nb sb).1, .int .i64 (balF na sa nb sb).2]) ∧ Below w.heap.size w w' := ⟨_, rfl⟩
 rw [← hpost]
 have HP := Lib.hid hpost
 clear hpost
 obtain ⟨W0, hW0⟩ : ∃ W0, W0 = ((w.alloc (.cells #[.bool na, .string sa] 40)).alloc (.cells #[.bool nb, .string sb] 40)).alloc (.cells #[.bool false, .string ⟨#[]⟩] 40) := ⟨_, rfl⟩
 have g0 : W0.heap[w.heap.size]? = some (.cells #[.bool na, .string sa] 40) := by rw [hW0]; repeat (first | (refine alloc_last _ _ ?_; simp only [World.size_alloc]; done) | (rw [Below.heap_alloc]; rotate_left; (simp only [World.size_alloc]; omega)))
 have g1 : W0.heap[w.heap.size + 1]? = some (.cells #[.bool nb, .string sb] 40) := by rw [hW0]; repeat (first | (refine alloc_last _ _ ?_; simp only [World.size_alloc]; done) | (rw [Below.heap_alloc]; rotate_left; (simp only [World.size_alloc]; omega)))
 have g2 : W0.heap[w.heap.size + 1 + 1]? = some (.cells #[.bool false, .string ⟨#[]⟩] 40) := by rw [hW0]; repeat (first | (refine alloc_last _ _ ?_; simp only [World.size_alloc]; done) | (rw [Below.heap_alloc]; rotate_left; (simp only [World.size_alloc]; omega)))
 have hb0 : Below w.heap.size w W0 := by rw [hW0]; exact ((((Below.refl _ w).alloc (Nat.le_refl _) _).alloc (by simp) _).alloc (by simp; omega) _)
 have HB0 := Lib.hid hb0
 have HG0 := Lib.hid g0
 have HG1 := Lib.hid g1
 have HG2 := Lib.hid g2
 obtain ⟨c00, c01, f0⟩ := wide_cells g0
 obtain ⟨c10, c11, f1⟩ := wide_cells g1
 have HW0 := Lib.hid hW0
 clear hb0 g0 g1 g2 hW0
 have HVAL : Hid (∀ W : World, Calls Tryz.prog 93 #[.agg #[.bool na, .string sa]] W fun e w' => e = .returned (.bool (validB na sa)) ∧ Below W.heap.size W w') := Valid_wide na sa hsa
 have HPOS : Hid (∀ W : World, Calls Tryz.prog 97 #[.agg #[.bool nb, .string sb]] W fun e w' => e = .returned (.bool (posB nb sb)) ∧ Below W.heap.size W w') := positive_any nb sb hsb
 obtain ⟨okv, hov⟩ : ∃ ok, ok = validB na sa := ⟨_, rfl⟩
 obtain ⟨okp, hop⟩ : ∃ ok, ok = posB nb sb := ⟨_, rfl⟩
 rw [← hov] at HVAL
 rw [← hop] at HPOS
 have HOV := Lib.hid hov
 have HOP := Lib.hid hop
 clear hov hop
 go_enter Tryz.func76, Tryz.ntmps76
 go_upto_region 1 with (fail)
 rw [← HW0.out]
 go_wp2_with fail
 (with_reducible refine (HVAL.out _).mono ?_)
 rintro e w1 ⟨rfl, hb1⟩
 have k0 := (hb1.block _ (lt_of_heap HG0.out)).trans HG0.out
 have k1 := (hb1.block _ (lt_of_heap HG1.out)).trans HG1.out
 have k2 := (hb1.block _ (lt_of_heap HG2.out)).trans HG2.out
 have HBw1 := Lib.hid (HB0.out.trans (hb1.mono HB0.out.size))
 clear c00 c01 f0 c10 c11 f1 hb1
 cases okv with
 | false =>
  obtain ⟨c20, c21, f2⟩ := wide_cells k2
  have HK2 := Lib.hid k2
  clear k0 k1 k2
  have hres : Hid (balF na sa nb sb = (emptyW, 2)) := by show _ = _; unfold balF; rw [← HOV.out]; rfl
  go_wp2
  have m2 := wide_set HK2.out false ⟨#[]⟩
  have hb9 := below_set2 (p := w.heap.size + 1 + 1) HBw1.out (by omega) false ⟨#[]⟩
  obtain ⟨d20, d21, -⟩ := wide_cells m2
  clear m2
  generalize (w1.setCell ⟨w.heap.size + 1 + 1, 0, none⟩ (.bool false)).setCell ⟨w.heap.size + 1 + 1, 1, none⟩ (.string ⟨#[]⟩) = W9 at d20 d21 hb9 ⊢
  rw [HP.out]
  exact bodyPost_ret (v := .tuple #[emptyW, .int .i64 2]) (by simp [results, Tryz.results76, go_sem, d20, d21]; rfl) rfl ⟨by rw [hres.out], hb9⟩
 | true =>
  obtain ⟨c10, c11, f1⟩ := wide_cells k1
  have HK0 := Lib.hid k0
  have HK1 := Lib.hid k1
  have HK2 := Lib.hid k2
  clear k0 k1 k2
  go_wp2_with fail
  (with_reducible refine (HPOS.out _).mono ?_)
  rintro e w2 ⟨rfl, hb2⟩
  have k0 := (hb2.block _ (lt_of_heap HK0.out)).trans HK0.out
  have k1 := (hb2.block _ (lt_of_heap HK1.out)).trans HK1.out
  have k2 := (hb2.block _ (lt_of_heap HK2.out)).trans HK2.out
  have HBw2 := Lib.hid (HBw1.out.trans (hb2.mono HBw1.out.size))
  clear c10 c11 f1 hb2
  cases okp with
  | false =>
   obtain ⟨c20, c21, f2⟩ := wide_cells k2
   have HK22 := Lib.hid k2
   clear k0 k1 k2
   have hres : Hid (balF na sa nb sb = (emptyW, 2)) := by show _ = _; unfold balF; rw [← HOV.out, ← HOP.out]; rfl
   go_wp2
   have m2 := wide_set HK22.out false ⟨#[]⟩
   have hb9 := below_set2 (p := w.heap.size + 1 + 1) HBw2.out (by omega) false ⟨#[]⟩
   obtain ⟨d20, d21, -⟩ := wide_cells m2
   clear m2
   generalize (w2.setCell ⟨w.heap.size + 1 + 1, 0, none⟩ (.bool false)).setCell ⟨w.heap.size + 1 + 1, 1, none⟩ (.string ⟨#[]⟩) = W9 at d20 d21 hb9 ⊢
   rw [HP.out]
   exact bodyPost_ret (v := .tuple #[emptyW, .int .i64 2]) (by simp [results, Tryz.results76, go_sem, d20, d21]; rfl) rfl ⟨by rw [hres.out], hb9⟩
  | true =>
   have hp := HOP.out
   unfold posB at hp
   have hv1 : validB nb sb = true := by cases h : validB nb sb <;> rw [h] at hp <;> first | rfl | cases hp
   rw [hv1, Bool.true_and] at hp
   have hp2 : sb.size ≠ 0 ∧ nb = false := by
    have h := hp.symm
    rw [Bool.and_eq_true, decide_eq_true_eq] at h
    exact ⟨h.1, by cases nb with
     | false => rfl
     | true => cases h.2⟩
   obtain ⟨h0, hnb⟩ := hp2
   subst hnb
   obtain ⟨l1, -, -, s256a⟩ := valid_spec na sa HOV.out.symm
   obtain ⟨l2, hmg, -, s256b⟩ := valid_spec false sb hv1
   have hofA : Hid (∀ W : World, Calls Tryz.prog 73 #[.agg #[.bool na, .string sa]] W (NumRet W (numB sa))) := of_wide na sa (by omega)
   have hofB : Hid (∀ W : World, Calls Tryz.prog 73 #[.agg #[.bool false, .string sb]] W (NumRet W (numB sb))) := of_wide false sb (by omega)
   have hD2 := hD HOV.out.symm hv1 h0
   have hB0 : numB sb ≠ 0 := by
    intro h
    rw [h] at hmg
    exact h0 (by rw [← hmg]; rfl)
   have hwa := wd_len65 l1
   have hwb := wd_len65 l2
   have hres : balF na sa false sb = (outZ (balZ (zV na sa) (zV false sb)), errZ (balZ (zV na sa) (zV false sb))) := by
    unfold balF; rw [← HOV.out, ← HOP.out]; rfl
   unfold zV at hres
   obtain ⟨A, hA⟩ : ∃ A, A = numB sa := ⟨_, rfl⟩
   obtain ⟨C, hC⟩ : ∃ C, C = numB sb := ⟨_, rfl⟩
   rw [← hA, ← hC] at hres
   rw [← hA] at hofA hwa
   rw [← hC] at hofB hB0 hwb
   rw [← hA, ← hC] at hD2
   obtain ⟨-, fz2⟩ := floor_z A na C false hB0
   have HFL : Hid (∀ (va vb : Value) (W : World), World.numR W va A → World.numR W vb C → Calls Tryz.prog 98 #[va, .bool na, vb, .bool false] W (FloorRet W A na C false)) := fun va vb W h1 h2 => floor_any A C na false hB0 hD2 (by omega) (by omega) va vb W h1 h2
   obtain ⟨r, hr⟩ : ∃ r, r = floorR A na C := ⟨_, rfl⟩
   have hrC : r < C := by
    rw [hr]
    have h3 := Nat.mod_lt A (show 0 < C by omega)
    unfold floorR
    split <;> omega
   have hwr : (wd r).length ≤ 64 := wd_len_le (Nat.le_of_lt hrC) hwb
   have hbz : balZ (zOf na A) (zOf false C) = if C < r * 2 ^ 1 then -((C - r : Nat) : Int) else (r : Int) := by
    unfold balZ
    rw [← fz2, ← hr, zOf_false]
    by_cases h : C < r * 2 ^ 1
    ·rw [if_pos h, if_pos (by omega)]; omega
    ·rw [if_neg h, if_neg (by omega)]
   rw [hbz] at hres
   have HRES := Lib.hid hres
   have HRR := Lib.hid hr
   obtain ⟨c00, c01, f0⟩ := wide_cells k0
   obtain ⟨c10, c11, f1⟩ := wide_cells k1
   have hl0 := lt_of_heap k0
   have hl1 := lt_of_heap k1
   have HK02 := Lib.hid k0
   have HK22 := Lib.hid k2
   have HWR := Lib.hid hwr
   have HWB := Lib.hid hwb
   clear hres hD2 hB0 hwa hwb hwr fz2 hA hC hmg l1 l2 h0 hr hbz k0 k1 k2 hv1 hp
   go_wp2_with fail
   (with_reducible refine (hofB.out _).mono ?_)
   rintro e w3 hy
   obtain ⟨vy, rfl, hoy, hby⟩ := hy
   have HY : Hid (World.numR w3 vy C) := hoy.reads
   obtain ⟨ay, cy, rfl⟩ := numR_shape HY.out
   have d0 := (hby.cell (p := ⟨w.heap.size, 0, none⟩) hl0).trans c00
   have d1 := (hby.cell (p := ⟨w.heap.size, 1, none⟩) hl0).trans c01
   have hm0 := Nat.lt_of_lt_of_le hl0 hby.size
   have HK23 := Lib.hid ((hby.block _ (lt_of_heap HK22.out)).trans HK22.out)
   have HBw3 := Lib.hid (HBw2.out.trans (hby.mono HBw2.out.size))
   clear hoy hby c00 c01 f0 c10 c11 f1 hl0 hl1
   go_wp2_with fail
   go_region_held3 (fun w' => (w'.cell? ⟨w.heap.size, 0, none⟩ = some (.bool na) ∧ w'.cell? ⟨w.heap.size, 1, none⟩ = some (.string sa)))
    (first | exact ⟨d0, d1⟩ | (refine ⟨?_, ?_⟩ <;> assumption))
    (first
     | (go_simp; go_at_call 73; (with_reducible refine (hofA.out _).mono ?_); rintro e w5 ⟨v5, rfl, ho5, hb5⟩; have H5 : Hid (NumRet _ A (.returned v5) w5) := ⟨v5, rfl, ho5, hb5⟩; have a0 := (hb5.cell (p := ⟨w.heap.size, 0, none⟩) hm0).trans d0; have a1 := (hb5.cell (p := ⟨w.heap.size, 1, none⟩) hm0).trans d1; have hn0 := Nat.lt_of_lt_of_le hm0 hb5.size; clear ho5 hb5)
     | (go_simp; go_at_call 98; (with_reducible refine (HFL.out _ _ _ H5.out.numR (numR_below HY.out H5.out.belD)).mono ?_); rintro e w7 ⟨v7, u7, rfl, hq7, hr7, hb7⟩; have HQ7 : Hid (World.numR w7 v7 (floorN A na C)) := hq7; have HR7 : Hid (World.numR w7 u7 (floorR A na C)) := hr7; have HB7 := Lib.hid hb7; have b0 := (hb7.cell (p := ⟨w.heap.size, 0, none⟩) hn0).trans a0; have b1 := (hb7.cell (p := ⟨w.heap.size, 1, none⟩) hn0).trans a1; clear hq7 hr7 hb7))
   have hb35 := H5.out.belD
   have hb37 : Below w3.heap.size w3 w7 := hb35.trans (HB7.out.mono hb35.size)
   have HY7 := Lib.hid (numR_below HY.out hb37)
   have HK27 := Lib.hid ((hb37.block _ (lt_of_heap HK23.out)).trans HK23.out)
   have HBw7 := Lib.hid (HBw3.out.trans (hb37.mono HBw3.out.size))
   rw [← HRR.out] at HR7
   obtain ⟨a7, c7, rfl⟩ := numR_shape HQ7.out
   obtain ⟨a8, c8, rfl⟩ := numR_shape HR7.out
   have hlr := left_num r 1 (by omega) _ w7 HR7.out (by have := HWR.out; omega) 1 rfl
   have HLR := Lib.hid hlr
   clear hb35 hb37 a0 a1 b0 b1 d0 d1 hm0 hn0 hlr
   go_wp2_with fail
   (with_reducible refine (HLR.out).mono ?_)
   rintro e w8 hr8
   obtain ⟨v8, rfl, ho8, hb8⟩ := hr8
   have HN8 : Hid (World.numR w8 v8 (r * 2 ^ 1)) := ho8.reads
   have HY8 := Lib.hid (numR_below HY7.out hb8)
   have HR8 := Lib.hid (numR_below HR7.out hb8)
   have HK28 := Lib.hid ((hb8.block _ (lt_of_heap HK27.out)).trans HK27.out)
   have HBw8 := Lib.hid (HBw7.out.trans (hb8.mono HBw7.out.size))
   have hcmp := compare_num (r * 2 ^ 1) C _ _ w8 HN8.out HY8.out (by have := wd_len_double HWR.out; omega) (by have := HWB.out; omega)
   obtain ⟨T, hT⟩ : ∃ T, T = cmpN (r * 2 ^ 1) C := ⟨_, rfl⟩
   rw [← hT] at hcmp
   have HCMP := Lib.hid hcmp
   clear ho8 hb8 hcmp
   by_cases hlt : C < r * 2 ^ 1
   ·have ht1 : T = 1 := by rw [hT, cmpN, if_neg (by omega), if_pos hlt]
    have hres : Hid (balF na sa false sb = (outZ (zOf true (C - r)), errZ (zOf true (C - r)))) := by show _ = _; rw [HRES.out, if_pos hlt]; rfl
    subst ht1
    clear hT hlt
    go_wp2_with fail
    (with_reducible refine (HCMP.out).mono ?_)
    rintro e w9 ⟨rfl, n9, rfl⟩
    have hmin := minus_any C r (Nat.le_of_lt hrC) _ _ (w8.drewN n9) (reads_drewN HY8.out n9) (reads_drewN HR8.out n9) (by have := HWB.out; omega) (by have := HWR.out; omega)
    have HMIN := Lib.hid hmin
    clear hmin
    go_wp2_with fail
    (with_reducible refine (HMIN.out).mono ?_)
    rintro e w10 hr10
    obtain ⟨v10, rfl, ho10, hb10⟩ := hr10
    have HN10 : Hid (World.numR w10 v10 (C - r)) := ho10.reads
    have HK210 := Lib.hid ((hb10.block _ (show w.heap.size + 1 + 1 < (w8.drewN n9).heap.size from lt_of_heap HK28.out)).trans HK28.out)
    have HBw10 : Hid (Below w.heap.size w w10) := (below_drewN HBw8.out n9).trans (hb10.mono (show w.heap.size ≤ (w8.drewN n9).heap.size from HBw8.out.size))
    clear ho10 hb10
    obtain ⟨fb, ft, hf1, hf2⟩ := form_numZ (C - r) true v10 w10 HN10.out (by have := wd_len_le (show C - r ≤ C by omega) HWB.out; omega)
    have HF := Lib.hid hf2
    rw [hf1] at hres
    obtain ⟨E, hE⟩ : ∃ E, E = errZ (zOf true (C - r)) := ⟨_, rfl⟩
    rw [← hE] at HF hres
    clear hf1 hf2 hE
    go_wp2_with fail
    (with_reducible refine (HF.out).mono ?_)
    rintro e w11 ⟨rfl, hb11⟩
    have k2 := (hb11.block _ (lt_of_heap HK210.out)).trans HK210.out
    have HBw11 := Lib.hid (HBw10.out.trans (hb11.mono HBw10.out.size))
    obtain ⟨c20, c21, f2⟩ := wide_cells k2
    have HK211 := Lib.hid k2
    clear k2 hb11
    go_wp2
    have m2 := wide_set HK211.out fb ft
    have hb9 := below_set2 (p := w.heap.size + 1 + 1) HBw11.out (by omega) fb ft
    obtain ⟨d20, d21, -⟩ := wide_cells m2
    clear m2
    generalize (w11.setCell ⟨w.heap.size + 1 + 1, 0, none⟩ (.bool fb)).setCell ⟨w.heap.size + 1 + 1, 1, none⟩ (.string ft) = W9 at d20 d21 hb9 ⊢
    rw [HP.out]
    exact bodyPost_ret (v := .tuple #[.agg #[.bool fb, .string ft], .int .i64 E]) (by simp [results, Tryz.results76, go_sem, d20, d21]) rfl ⟨by rw [hres.out], hb9⟩
   ·have ht1 : T = 0 ∨ T = -1 := by
     rw [hT, cmpN]
     by_cases h : r * 2 ^ 1 < C
     ·rw [if_pos h]; exact Or.inr rfl
     ·rw [if_neg h, if_neg hlt]; exact Or.inl rfl
    have ht2 : ¬ 0 < T := by omega
    have hres : Hid (balF na sa false sb = (outZ (zOf false r), errZ (zOf false r))) := by show _ = _; rw [HRES.out, if_neg hlt]; rfl
    clear hT hlt ht1
    go_wp2_with fail
    (with_reducible refine (HCMP.out).mono ?_)
    rintro e w9 ⟨rfl, n9, rfl⟩
    obtain ⟨fb, ft, hf1, hf2⟩ := form_numZ r false _ (w8.drewN n9) (numR_drewN HR8.out n9) (by have := HWR.out; omega)
    have HF := Lib.hid hf2
    rw [hf1] at hres
    obtain ⟨E, hE⟩ : ∃ E, E = errZ (zOf false r) := ⟨_, rfl⟩
    rw [← hE] at HF hres
    have HK29 : Hid ((w8.drewN n9).heap[w.heap.size + 1 + 1]? = some (.cells #[.bool false, .string ⟨#[]⟩] 40)) := HK28.out
    have HBw9 : Hid (Below w.heap.size w (w8.drewN n9)) := below_drewN HBw8.out n9
    clear hf1 hf2 hE
    go_wp2_with fail
    (with_reducible refine (HF.out).mono ?_)
    rintro e w11 ⟨rfl, hb11⟩
    have k2 := (hb11.block _ (lt_of_heap HK29.out)).trans HK29.out
    have HBw11 := Lib.hid (HBw9.out.trans (hb11.mono HBw9.out.size))
    obtain ⟨c20, c21, f2⟩ := wide_cells k2
    have HK211 := Lib.hid k2
    clear k2 hb11
    go_wp2
    have m2 := wide_set HK211.out fb ft
    have hb9 := below_set2 (p := w.heap.size + 1 + 1) HBw11.out (by omega) fb ft
    obtain ⟨d20, d21, -⟩ := wide_cells m2
    clear m2
    generalize (w11.setCell ⟨w.heap.size + 1 + 1, 0, none⟩ (.bool fb)).setCell ⟨w.heap.size + 1 + 1, 1, none⟩ (.string ft) = W9 at d20 d21 hb9 ⊢
    rw [HP.out]
    exact bodyPost_ret (v := .tuple #[.agg #[.bool fb, .string ft], .int .i64 E]) (by simp [results, Tryz.results76, go_sem, d20, d21]) rfl ⟨by rw [hres.out], hb9⟩
end
/- Walks: a form shifted to the left. -/
/- Walks: the calls that each law makes at its end. -/
section
open Go.RowKit Go.Shelf Go.WideNum
theorem below_viaD {a b c : World} (h : Below a.heap.size a b) (k : Below b.drew.heap.size b.drew c) : Below a.heap.size a c := (h.drew).trans (k.mono h.size)
end
/- Walks: two forms compared. -/
section
open Go.RowKit Go.Shelf Go.WideNum
def cmpZ (a b : Int) : Int := if a < b then -1 else if b < a then 1 else 0
def cmpF (na : Bool) (sa : ByteArray) (nb : Bool) (sb : ByteArray) : Int × Int := if validB na sa && validB nb sb then (cmpZ (zV na sa) (zV nb sb), 0) else (0, 2)
theorem cmp_same (neg : Bool) (A C : Nat) : (if neg then -cmpN A C else cmpN A C) = cmpZ (zOf neg A) (zOf neg C) := by
 unfold cmpN cmpZ zOf
 cases neg
 ·simp only [Bool.false_eq_true, if_false]
  by_cases h1 : A < C
  ·rw [if_pos h1, if_pos (by omega)]
  ·rw [if_neg h1, if_neg (show ¬ (A : Int) < (C : Int) by omega)]
   by_cases h2 : C < A
   ·rw [if_pos h2, if_pos (by omega)]
   ·rw [if_neg h2, if_neg (by omega)]
 ·simp only [if_true]
  by_cases h1 : A < C
  ·rw [if_pos h1, if_neg (by omega), if_pos (by omega)]; rfl
  ·by_cases h2 : C < A
   ·rw [if_neg h1, if_pos h2, if_pos (by omega)]
   ·rw [if_neg h1, if_neg h2, if_neg (by omega), if_neg (by omega)]; rfl
theorem cmp_other (na nb : Bool) (h : na ≠ nb) (A C : Nat) (ha : na = true → A ≠ 0) (hc : nb = true → C ≠ 0) : (if na then (-1 : Int) else 1) = cmpZ (zOf na A) (zOf nb C) := by
 unfold cmpZ zOf
 cases na <;> cases nb
 ·exact absurd rfl h
 ·have := hc rfl
  simp only [Bool.false_eq_true, if_false, if_true]
  rw [if_neg (by omega), if_pos (by omega)]
 ·have := ha rfl
  simp only [Bool.false_eq_true, if_false, if_true]
  rw [if_pos (by omega)]
 ·exact absurd rfl h
theorem cmpN_bd (A C : Nat) : -1 ≤ cmpN A C ∧ cmpN A C ≤ 1 := by unfold cmpN; split <;> (try split) <;> omega
theorem signed_any (neg : Bool) (c : Int) (h1 : -1 ≤ c) (h2 : c ≤ 1) (w : World) : Calls Tryz.prog 77 #[.bool neg, .int .i64 c] w fun e w' => e = .returned (.int .i64 (if neg then -c else c)) ∧ w = w' := by
 cases neg
 ·go_enter Tryz.func77, Tryz.ntmps77
  go_wp2
  go_ret
  exact ⟨rfl, rfl⟩
 ·go_enter Tryz.func77, Tryz.ntmps77
  go_wp2
  go_ret
  exact ⟨rfl, rfl⟩
theorem Cmp_any (na : Bool) (sa : ByteArray) (nb : Bool) (sb : ByteArray) (hsa : sa.size ≤ maxLen) (hsb : sb.size ≤ maxLen) (w : World) :
  Calls Tryz.prog 49 #[.agg #[.bool na, .string sa], .agg #[.bool nb, .string sb]] w fun e w' => e = .returned (.tuple #[.int .i64 (cmpF na sa nb sb).1, .int .i64 (cmpF na sa nb sb).2]) ∧ Below w.heap.size w w' := by
 obtain ⟨HPOST, hpost⟩ : ∃ X : Ending → World → Prop, X = fun e w' => e = .returned (.tuple #[.int .i64 (cmpF na sa nb sb).1, .int .i64 (cmpF na sa nb sb).2]) ∧ Below w.heap.size w w' := ⟨_, rfl⟩
 rw [← hpost]
 have HP := Lib.hid hpost
 clear hpost
 obtain ⟨W0, hW0⟩ : ∃ W0, W0 = (w.alloc (.cells #[.bool na, .string sa] 40)).alloc (.cells #[.bool nb, .string sb] 40) := ⟨_, rfl⟩
 have g0 : W0.heap[w.heap.size]? = some (.cells #[.bool na, .string sa] 40) := by rw [hW0]; repeat (first | (refine alloc_last _ _ ?_; simp only [World.size_alloc]; done) | (rw [Below.heap_alloc]; rotate_left; (simp only [World.size_alloc]; omega)))
 have g1 : W0.heap[w.heap.size + 1]? = some (.cells #[.bool nb, .string sb] 40) := by rw [hW0]; repeat (first | (refine alloc_last _ _ ?_; simp only [World.size_alloc]; done) | (rw [Below.heap_alloc]; rotate_left; (simp only [World.size_alloc]; omega)))
 have hb0 : Below w.heap.size w W0 := by rw [hW0]; exact (((Below.refl _ w).alloc (Nat.le_refl _) _).alloc (by simp) _)
 have HB0 := Lib.hid hb0
 have HG0 := Lib.hid g0
 have HG1 := Lib.hid g1
 obtain ⟨c00, c01, f0⟩ := wide_cells g0
 obtain ⟨c10, c11, f1⟩ := wide_cells g1
 have HW0 := Lib.hid hW0
 clear hb0 g0 g1 hW0
 go_enter Tryz.func49, Tryz.ntmps49
 go_upto_region 1 with (fail)
 rw [← HW0.out]
 go_wp2_with fail
 obtain ⟨ok, hok⟩ : ∃ ok, ok = (validB na sa && validB nb sb) := ⟨_, rfl⟩
 have hval := valid2_any na sa nb sb hsa hsb (W0.alloc (.cells #[.bool na, .string sa, .bool nb, .string sb] 40)) W0.heap.size (heap_alloc_new W0 _)
 rw [← hok] at hval
 have HOK := Lib.hid hok
 clear hok
 (with_reducible refine hval.mono ?_)
 clear hval
 rintro e w1 ⟨rfl, hb1⟩
 have hb01 : Below W0.heap.size W0 w1 := ((Below.refl _ W0).alloc (Nat.le_refl _) _).trans (hb1.mono (by simp))
 have k0 := (hb01.block _ (lt_of_heap HG0.out)).trans HG0.out
 have k1 := (hb01.block _ (lt_of_heap HG1.out)).trans HG1.out
 have HBw1 := Lib.hid (HB0.out.trans (hb01.mono HB0.out.size))
 clear c00 c01 f0 c10 c11 f1 hb1
 obtain ⟨c00, c01, f0⟩ := wide_cells k0
 obtain ⟨c10, c11, f1⟩ := wide_cells k1
 have hl0 := lt_of_heap k0
 have hl1 := lt_of_heap k1
 clear k0 k1 hb01
 cases ok with
 | false =>
  have hres : Hid (cmpF na sa nb sb = (0, 2)) := by show _ = _; unfold cmpF; rw [← HOK.out]; rfl
  go_wp2
  rw [HP.out]
  exact ⟨by rw [hres.out]; rfl, HBw1.out⟩
 | true =>
  have hv : validB na sa = true ∧ validB nb sb = true := by
   have := HOK.out
   cases h1 : validB na sa <;> cases h2 : validB nb sb <;> rw [h1, h2] at this <;> first | exact ⟨rfl, rfl⟩ | cases this
  obtain ⟨l1, -, z1, s256a⟩ := valid_spec na sa hv.1
  obtain ⟨l2, -, z2, s256b⟩ := valid_spec nb sb hv.2
  have hres : Hid (cmpF na sa nb sb = (cmpZ (zOf na (numB sa)) (zOf nb (numB sb)), 0)) := by show _ = _; unfold cmpF; rw [← HOK.out]; rfl
  by_cases hs : na = nb
  ·subst hs
   have hofA : Hid (∀ W : World, Calls Tryz.prog 73 #[.agg #[.bool na, .string sa]] W (NumRet W (numB sa))) := of_wide na sa (by omega)
   have hofB : Hid (∀ W : World, Calls Tryz.prog 73 #[.agg #[.bool na, .string sb]] W (NumRet W (numB sb))) := of_wide na sb (by omega)
   have hwa := wd_len65 l1
   have hwb := wd_len65 l2
   obtain ⟨A, hA⟩ : ∃ A, A = numB sa := ⟨_, rfl⟩
   obtain ⟨C, hC⟩ : ∃ C, C = numB sb := ⟨_, rfl⟩
   rw [← hA, ← hC] at hres
   rw [← hA] at hofA hwa
   rw [← hC] at hofB hwb
   rw [← cmp_same] at hres
   have hcmp : Hid (∀ (va vb : Value) (W : World), World.numR W va A → World.numR W vb C → Calls Tryz.prog 78 #[va, vb] W fun e w' => e = .returned (.int .i64 (cmpN A C)) ∧ ∃ n, w' = W.drewN n) := fun va vb W h1 h2 => compare_num A C va vb W h1 h2 (by omega) (by omega)
   obtain ⟨bd1, bd2⟩ := cmpN_bd A C
   obtain ⟨T, hT⟩ : ∃ T, T = cmpN A C := ⟨_, rfl⟩
   rw [← hT] at hcmp hres bd1 bd2
   have hsg : Hid (∀ W : World, Calls Tryz.prog 77 #[.bool na, .int .i64 T] W fun e w' => e = .returned (.int .i64 (if na then -T else T)) ∧ W = w') := fun W => signed_any na T bd1 bd2 W
   obtain ⟨Z, hZ⟩ : ∃ Z, Z = if na then -T else T := ⟨_, rfl⟩
   rw [← hZ] at hsg hres
   have HWA := Lib.hid hwa
   clear hT hZ hA hC z1 z2 l1 l2 hwa hwb hv bd1 bd2
   go_wp2_with fail
   go_region_held3 (fun w' => (w'.cell? ⟨w.heap.size, 0, none⟩ = some (.bool na) ∧ w'.cell? ⟨w.heap.size, 1, none⟩ = some (.string sa) ∧ w'.cell? ⟨w.heap.size + 1, 0, none⟩ = some (.bool na) ∧ w'.cell? ⟨w.heap.size + 1, 1, none⟩ = some (.string sb)))
    (first | exact ⟨c00, c01, c10, c11⟩ | (refine ⟨?_, ?_, ?_, ?_⟩ <;> assumption) | exact ⟨b0, b1, b2, b3⟩)
    (first
     | (go_simp; go_at_call 73; (with_reducible refine (hofA.out _).mono ?_); rintro e w5 ⟨v5, rfl, ho5, hb5⟩; have H5 : Hid (NumRet _ A (.returned v5) w5) := ⟨v5, rfl, ho5, hb5⟩; have a0 := (hb5.cell (p := ⟨w.heap.size, 0, none⟩) hl0).trans c00; have a1 := (hb5.cell (p := ⟨w.heap.size, 1, none⟩) hl0).trans c01; have a2 := (hb5.cell (p := ⟨w.heap.size + 1, 0, none⟩) hl1).trans c10; have a3 := (hb5.cell (p := ⟨w.heap.size + 1, 1, none⟩) hl1).trans c11; have hm0 := Nat.lt_of_lt_of_le hl0 hb5.size; have hm1 := Nat.lt_of_lt_of_le hl1 hb5.size; clear ho5 hb5)
     | (go_simp; go_at_call 73; (with_reducible refine (hofB.out _).mono ?_); rintro e w6 ⟨v6, rfl, ho6, hb6⟩; have H6 : Hid (NumRet _ C (.returned v6) w6) := ⟨v6, rfl, ho6, hb6⟩; have b0 := (hb6.cell (p := ⟨w.heap.size, 0, none⟩) hm0).trans a0; have b1 := (hb6.cell (p := ⟨w.heap.size, 1, none⟩) hm0).trans a1; have b2 := (hb6.cell (p := ⟨w.heap.size + 1, 0, none⟩) hm1).trans a2; have b3 := (hb6.cell (p := ⟨w.heap.size + 1, 1, none⟩) hm1).trans a3; have HB6 := Lib.hid (H5.out.belD.trans (hb6.mono H5.out.belD.size)); clear ho6 hb6)
     | (go_simp; go_at_call 78; (with_reducible refine (hcmp.out _ _ _ (numR_below H5.out.numR H6.out.bel) H6.out.numR).mono ?_); rintro e w7 ⟨rfl, n7, rfl⟩)
     | (go_simp; go_at_call 77; (with_reducible refine (hsg.out _).mono ?_); rintro e w8 ⟨rfl, rfl⟩))
   have hbf := below_drewN (HBw1.out.trans (HB6.out.mono HBw1.out.size)) n7
   go_wp2
   rw [HP.out]
   exact ⟨by rw [hres.out]; rfl, hbf⟩
  ·rw [← cmp_other na nb hs _ _ z1 z2] at hres
   have hcs : (na = true ∧ nb = false) ∨ (na = false ∧ nb = true) := by cases na <;> cases nb <;> simp at hs ⊢
   clear z1 z2 l1 l2 hv
   rcases hcs with ⟨rfl, rfl⟩ | ⟨rfl, rfl⟩
   ·have hsg : Hid (∀ W : World, Calls Tryz.prog 77 #[.bool true, .int .i64 1] W fun e w' => e = .returned (.int .i64 (-1)) ∧ W = w') := fun W => signed_any true 1 (by omega) (by omega) W
    clear hs
    go_wp2_with fail
    (with_reducible refine (hsg.out _).mono ?_)
    rintro e w8 ⟨rfl, rfl⟩
    go_wp2
    rw [HP.out]
    exact ⟨by rw [hres.out]; rfl, HBw1.out⟩
   ·have hsg : Hid (∀ W : World, Calls Tryz.prog 77 #[.bool false, .int .i64 1] W fun e w' => e = .returned (.int .i64 1) ∧ W = w') := fun W => signed_any false 1 (by omega) (by omega) W
    clear hs
    go_wp2_with fail
    (with_reducible refine (hsg.out _).mono ?_)
    rintro e w8 ⟨rfl, rfl⟩
    go_wp2
    rw [HP.out]
    exact ⟨by rw [hres.out]; rfl, HBw1.out⟩
end
/- Plain: a text leads back to the integer, and the integer to the text. -/
section
open Go.WideNum
theorem valid_magB (neg : Bool) (n : Nat) (h : n < lim) (hz : neg = true → n ≠ 0) : validB neg (magB n) = true ∧ numB (magB n) = n := by
 have hnum : numB (magB n) = n := by unfold numB magB; exact valM_magL n
 refine ⟨?_, hnum⟩
 unfold validB
 have hl := magL_length n
 by_cases h0 : n = 0
 ·subst h0
  cases neg with
  | false => rfl
  | true => exact absurd rfl (hz rfl)
 ·have hsz : (magB n).size = (words 256 n).length := by rw [← hl]; rfl
  have hw0 : ¬ (words 256 n).length = 0 := fun h => h0 ((words_len0 (B := 256) (by omega) n).1 h)
  rw [dif_neg (by rw [hsz]; exact hw0)]
  have h256 := (lim_iff n _ rfl).1 h
  rw [Bool.and_eq_true]
  refine ⟨decide_eq_true ?_, decide_eq_true (by rw [hsz]; exact h256)⟩
  intro hz0
  have htr := words_trimmed (B := 256) (by omega) n n (Nat.le_refl _)
  have hp : 0 < (magL n).length := by rw [hl]; omega
  have e1 : (magL n)[0] = 0 := hz0
  have e2 : (magL n).head? = some 0 := by rw [List.head?_eq_getElem?, List.getElem?_eq_getElem hp, e1]
  unfold magL at e2
  rw [List.head?_reverse, List.getLast?_map] at e2
  cases hg : (words 256 n).getLast? with
  | none => rw [hg] at e2; cases e2
  | some x =>
   rw [hg] at e2
   injection e2 with e2
   have hx := htr x hg
   have hx2 := words_lt (B := 256) (by omega) n n x (List.mem_of_getLast? hg)
   have : (UInt8.ofNat x).toNat = 0 := by
    have e3 : UInt8.ofNat x = 0 := e2
    rw [e3]; rfl
   rw [UInt8.toNat_ofNat'] at this
   have e4 : x % 256 = 0 := this
   omega
end
/- Walks: the sum of two forms. -/
section
open Go.RowKit Go.Shelf Go.WideNum
def opF (f : Int → Int → Int) (na : Bool) (sa : ByteArray) (nb : Bool) (sb : ByteArray) : Value × Int :=
 if validB na sa && validB nb sb then (outZ (f (zV na sa) (zV nb sb)), errZ (f (zV na sa) (zV nb sb))) else (emptyW, 2)
theorem mul_z (A : Nat) (an : Bool) (C : Nat) (bn : Bool) : zOf (an != bn) (A * C) = zOf an A * zOf bn C := by
 unfold zOf
 cases an <;> cases bn <;> simp [Int.natCast_mul, Int.mul_neg, Int.neg_mul]
theorem bne_eq (a b : Bool) : (!(a == b)) = (a != b) := rfl
theorem sumN_le (A : Nat) (an : Bool) (C : Nat) (bn : Bool) : sumN A an C bn ≤ A + C := by
 unfold sumN
 split
 ·exact Nat.le_refl _
 ·split <;> omega
theorem wd_len_sum {A C n : Nat} (ha : (wd A).length ≤ 64) (hc : (wd C).length ≤ 64) (h : n ≤ A + C) : (wd n).length ≤ 65 := by
 have h1 := wd_vlt A
 have h2 := wd_vlt C
 have hp : (4294967296 : Nat) ^ (wd A).length ≤ 4294967296 ^ 64 := Nat.pow_le_pow_right (by omega) ha
 have hp2 : (4294967296 : Nat) ^ (wd C).length ≤ 4294967296 ^ 64 := Nat.pow_le_pow_right (by omega) hc
 exact words_length (by omega) n 65 (by rw [show (65 : Nat) = 64 + 1 by rfl, Nat.pow_succ]; omega)
theorem wd_len_prod {A C : Nat} (ha : (wd A).length ≤ 64) (hc : (wd C).length ≤ 64) : (wd (A * C)).length ≤ 128 := by
 have h1 := wd_vlt A
 have h2 := wd_vlt C
 have hp : (4294967296 : Nat) ^ (wd A).length ≤ 4294967296 ^ 64 := Nat.pow_le_pow_right (by omega) ha
 have hp2 : (4294967296 : Nat) ^ (wd C).length ≤ 4294967296 ^ 64 := Nat.pow_le_pow_right (by omega) hc
 exact words_length (by omega) (A * C) 128 (by
  rw [show (128 : Nat) = 64 + 64 by rfl, Nat.pow_add]
  exact Nat.mul_lt_mul'' (Nat.lt_of_lt_of_le h1 hp) (Nat.lt_of_lt_of_le h2 hp2))
theorem sum_num (A C : Nat) (an bn : Bool) (va vb : Value) (w : World) (hA : World.numR w va A) (hC : World.numR w vb C) (hla : (wd A).length ≤ 2000) (hlc : (wd C).length ≤ 2000) :
  Calls Tryz.prog 96 #[va, .bool an, vb, .bool bn] w fun e w' => (∃ v, e = .returned (.tuple #[v, .bool (sumS A an C bn)]) ∧ World.numR w' v (sumN A an C bn)) ∧ Below w.heap.size w w' :=
 (sum_any A C an bn va vb w hA hC hla hlc).mono fun e w' ⟨v, he, hr⟩ => ⟨⟨v, he, hr.numR⟩, hr.bel⟩
theorem times_num (A C : Nat) (va vb : Value) (w : World) (hA : World.numR w va A) (hC : World.numR w vb C) (hl : (wd A).length + (wd C).length ≤ 134) :
  Calls Tryz.prog 72 #[va, vb] w fun e w' => (∃ v, e = .returned v ∧ World.numR w' v (A * C)) ∧ Below w.heap.size w w' :=
 (times_any A C va vb w hA hC hl).mono fun e w' hr => by
  obtain ⟨v, rfl, h1, h2⟩ := hr
  exact ⟨⟨v, rfl, h1.reads⟩, h2⟩
theorem Add_any (na : Bool) (sa : ByteArray) (nb : Bool) (sb : ByteArray) (hsa : sa.size ≤ maxLen) (hsb : sb.size ≤ maxLen) (w : World) :
  Calls Tryz.prog 75 #[.agg #[.bool na, .string sa], .agg #[.bool nb, .string sb]] w fun e w' => e = .returned (.tuple #[(opF (fun a b => a + b) na sa nb sb).1, .int .i64 (opF (fun a b => a + b) na sa nb sb).2]) ∧ Below w.heap.size w w' := by
 obtain ⟨HPOST, hpost⟩ : ∃ X : Ending → World → Prop, X = fun e w' => e = .returned (.tuple #[(opF (fun a b => a + b) na sa nb sb).1, .int .i64 (opF (fun a b => a + b) na sa nb sb).2]) ∧ Below w.heap.size w w' := ⟨_, rfl⟩
 rw [← hpost]
 have HP := Lib.hid hpost
 clear hpost
 obtain ⟨W0, hW0⟩ : ∃ W0, W0 = ((w.alloc (.cells #[.bool na, .string sa] 40)).alloc (.cells #[.bool nb, .string sb] 40)).alloc (.cells #[.bool false, .string ⟨#[]⟩] 40) := ⟨_, rfl⟩
 have g0 : W0.heap[w.heap.size]? = some (.cells #[.bool na, .string sa] 40) := by rw [hW0]; repeat (first | (refine alloc_last _ _ ?_; simp only [World.size_alloc]; done) | (rw [Below.heap_alloc]; rotate_left; (simp only [World.size_alloc]; omega)))
 have g1 : W0.heap[w.heap.size + 1]? = some (.cells #[.bool nb, .string sb] 40) := by rw [hW0]; repeat (first | (refine alloc_last _ _ ?_; simp only [World.size_alloc]; done) | (rw [Below.heap_alloc]; rotate_left; (simp only [World.size_alloc]; omega)))
 have g2 : W0.heap[w.heap.size + 1 + 1]? = some (.cells #[.bool false, .string ⟨#[]⟩] 40) := by rw [hW0]; repeat (first | (refine alloc_last _ _ ?_; simp only [World.size_alloc]; done) | (rw [Below.heap_alloc]; rotate_left; (simp only [World.size_alloc]; omega)))
 have hb0 : Below w.heap.size w W0 := by rw [hW0]; exact ((((Below.refl _ w).alloc (Nat.le_refl _) _).alloc (by simp) _).alloc (by simp; omega) _)
 have HB0 := Lib.hid hb0
 have HG0 := Lib.hid g0
 have HG1 := Lib.hid g1
 have HG2 := Lib.hid g2
 obtain ⟨c00, c01, f0⟩ := wide_cells g0
 obtain ⟨c10, c11, f1⟩ := wide_cells g1
 have HW0 := Lib.hid hW0
 clear hb0 g0 g1 g2 hW0
 go_enter Tryz.func75, Tryz.ntmps75
 go_upto_region 1 with (fail)
 rw [← HW0.out]
 go_wp2_with fail
 obtain ⟨ok, hok⟩ : ∃ ok, ok = (validB na sa && validB nb sb) := ⟨_, rfl⟩
 have hval := valid2_any na sa nb sb hsa hsb (W0.alloc (.cells #[.bool na, .string sa, .bool nb, .string sb] 40)) W0.heap.size (heap_alloc_new W0 _)
 rw [← hok] at hval
 have HOK := Lib.hid hok
 clear hok
 (with_reducible refine hval.mono ?_)
 clear hval
 rintro e w1 ⟨rfl, hb1⟩
 have hb01 : Below W0.heap.size W0 w1 := ((Below.refl _ W0).alloc (Nat.le_refl _) _).trans (hb1.mono (by simp))
 have k0 := (hb01.block _ (lt_of_heap HG0.out)).trans HG0.out
 have k1 := (hb01.block _ (lt_of_heap HG1.out)).trans HG1.out
 have k2 := (hb01.block _ (lt_of_heap HG2.out)).trans HG2.out
 have HK2 := Lib.hid k2
 have HBw1 := Lib.hid (HB0.out.trans (hb01.mono HB0.out.size))
 clear c00 c01 f0 c10 c11 f1 hb1
 obtain ⟨c00, c01, f0⟩ := wide_cells k0
 obtain ⟨c10, c11, f1⟩ := wide_cells k1
 obtain ⟨e20, e21, f2⟩ := wide_cells k2
 have hl0 := lt_of_heap k0
 have hl1 := lt_of_heap k1
 have hl2 := lt_of_heap k2
 clear k0 k1 k2 hb01
 cases ok with
 | false =>
  have hres : Hid (opF (fun a b => a + b) na sa nb sb = (emptyW, 2)) := by show _ = _; unfold opF; rw [← HOK.out]; rfl
  go_wp2
  have m2 := wide_set HK2.out false ⟨#[]⟩
  have hb9 := below_set2 (p := w.heap.size + 1 + 1) HBw1.out (by omega) false ⟨#[]⟩
  obtain ⟨d20, d21, -⟩ := wide_cells m2
  clear m2 e20 e21 f2
  generalize (w1.setCell ⟨w.heap.size + 1 + 1, 0, none⟩ (.bool false)).setCell ⟨w.heap.size + 1 + 1, 1, none⟩ (.string ⟨#[]⟩) = W9 at d20 d21 hb9 ⊢
  rw [HP.out]
  exact bodyPost_ret (v := .tuple #[emptyW, .int .i64 2]) (by simp [results, Tryz.results75, go_sem, d20, d21]; rfl) rfl ⟨by rw [hres.out], hb9⟩
 | true =>
  have hv : validB na sa = true ∧ validB nb sb = true := by
   have := HOK.out
   cases h1 : validB na sa <;> cases h2 : validB nb sb <;> rw [h1, h2] at this <;> first | exact ⟨rfl, rfl⟩ | cases this
  obtain ⟨l1, -, -, s256a⟩ := valid_spec na sa hv.1
  obtain ⟨l2, -, -, s256b⟩ := valid_spec nb sb hv.2
  have hofA : Hid (∀ W : World, Calls Tryz.prog 73 #[.agg #[.bool na, .string sa]] W (NumRet W (numB sa))) := of_wide na sa (by omega)
  have hofB : Hid (∀ W : World, Calls Tryz.prog 73 #[.agg #[.bool nb, .string sb]] W (NumRet W (numB sb))) := of_wide nb sb (by omega)
  have hwa := wd_len65 l1
  have hwb := wd_len65 l2
  have hres : opF (fun a b => a + b) na sa nb sb = (outZ ((fun a b => a + b) (zV na sa) (zV nb sb)), errZ ((fun a b => a + b) (zV na sa) (zV nb sb))) := by unfold opF; rw [← HOK.out]; rfl
  unfold zV at hres
  obtain ⟨A, hA⟩ : ∃ A, A = numB sa := ⟨_, rfl⟩
  obtain ⟨C, hC⟩ : ∃ C, C = numB sb := ⟨_, rfl⟩
  rw [← hA, ← hC] at hres
  rw [← hA] at hofA hwa
  rw [← hC] at hofB hwb
  have HSUM : Hid (∀ (va vb : Value) (W : World) (b' : Bool), World.numR W va A → World.numR W vb C → b' = nb → Calls Tryz.prog 96 #[va, .bool na, vb, .bool b'] W fun e w' => (∃ v, e = .returned (.tuple #[v, .bool (sumS A na C (nb))]) ∧ World.numR w' v (sumN A na C (nb))) ∧ Below W.heap.size W w') := fun va vb W b' h1 h2 h3 => by rw [h3]; exact sum_num A C na (nb) va vb W h1 h2 (by omega) (by omega)
  obtain ⟨S, hS⟩ : ∃ S, S = sumS A na C (nb) := ⟨_, rfl⟩
  obtain ⟨M, hMM⟩ : ∃ M, M = sumN A na C (nb) := ⟨_, rfl⟩
  have hML : (wd M).length ≤ 65 := wd_len_sum hwa hwb (by rw [hMM]; exact sumN_le _ _ _ _)
  rw [show (fun a b => a + b) (zOf na A) (zOf nb C) = zOf S M by rw [hS, hMM]; exact (sum_z A na C nb).symm] at hres
  rw [← hS, ← hMM] at HSUM
  clear hS
  have hff : ∃ fb ft, outZ (zOf S M) = .agg #[.bool fb, .string ft] ∧ ∀ (v : Value) (W : World) (S' : Bool), World.numR W v M → S' = S → Calls Tryz.prog 68 #[v, .bool S'] W fun e w' => e = .returned (.tuple #[.agg #[.bool fb, .string ft], .int .i64 (errZ (zOf S M))]) ∧ Below W.heap.size W w' := by
   have hwide : ∃ b t, outB S M = .agg #[.bool b, .string t] := by unfold outB emptyW wideV; split <;> exact ⟨_, _, rfl⟩
   obtain ⟨b, t, hbt⟩ := hwide
   refine ⟨b, t, by rw [← outB_z]; exact hbt, fun v W S' h hS => ?_⟩
   subst hS
   obtain ⟨b', t', h1, h2⟩ := form_numZ M S' v W h (by omega)
   rw [← outB_z, hbt] at h1
   rwa [← h1] at h2
  obtain ⟨fb, ft, hf1, hf2⟩ := hff
  obtain ⟨E, hE⟩ : ∃ E, E = errZ (zOf S M) := ⟨_, rfl⟩
  rw [hf1, ← hE] at hres
  rw [← hE] at hf2
  have HFF := Lib.hid hf2
  have HRES := Lib.hid hres
  skip
  clear hres hf1 hf2 hE hA hC l1 l2 hwa hwb hv hML hMM
  go_wp2_with fail
  go_region_held3 (fun w' => (w'.cell? ⟨w.heap.size, 0, none⟩ = some (.bool na) ∧ w'.cell? ⟨w.heap.size, 1, none⟩ = some (.string sa) ∧ w'.cell? ⟨w.heap.size + 1, 0, none⟩ = some (.bool nb) ∧ w'.cell? ⟨w.heap.size + 1, 1, none⟩ = some (.string sb)))
   (first | exact ⟨c00, c01, c10, c11⟩ | (refine ⟨?_, ?_, ?_, ?_⟩ <;> assumption) | exact ⟨(World.cell?_of_block (a := ⟨w.heap.size, 0, none⟩) (wide_other (p := w.heap.size) (q := w.heap.size + 1 + 1) (by omega) fb ft)).trans q0, (World.cell?_of_block (a := ⟨w.heap.size, 1, none⟩) (wide_other (p := w.heap.size) (q := w.heap.size + 1 + 1) (by omega) fb ft)).trans q1, (World.cell?_of_block (a := ⟨w.heap.size + 1, 0, none⟩) (wide_other (p := w.heap.size + 1) (q := w.heap.size + 1 + 1) (by omega) fb ft)).trans q2, (World.cell?_of_block (a := ⟨w.heap.size + 1, 1, none⟩) (wide_other (p := w.heap.size + 1) (q := w.heap.size + 1 + 1) (by omega) fb ft)).trans q3⟩)
   (first
    | (go_simp; go_at_call 73; (with_reducible refine (hofA.out _).mono ?_); rintro e w5 ⟨v5, rfl, ho5, hb5⟩; have H5 : Hid (NumRet _ A (.returned v5) w5) := ⟨v5, rfl, ho5, hb5⟩; have a0 := (hb5.cell (p := ⟨w.heap.size, 0, none⟩) hl0).trans c00; have a1 := (hb5.cell (p := ⟨w.heap.size, 1, none⟩) hl0).trans c01; have a2 := (hb5.cell (p := ⟨w.heap.size + 1, 0, none⟩) hl1).trans c10; have a3 := (hb5.cell (p := ⟨w.heap.size + 1, 1, none⟩) hl1).trans c11; have ha0 := Nat.lt_of_lt_of_le hl0 hb5.size; have ha1 := Nat.lt_of_lt_of_le hl1 hb5.size;  clear ho5 hb5)
    | (go_simp; go_at_call 73; (with_reducible refine (hofB.out _).mono ?_); rintro e w6 ⟨v6, rfl, ho6, hb6⟩; have H6 : Hid (NumRet _ C (.returned v6) w6) := ⟨v6, rfl, ho6, hb6⟩; have b0 := (hb6.cell (p := ⟨w.heap.size, 0, none⟩) ha0).trans a0; have b1 := (hb6.cell (p := ⟨w.heap.size, 1, none⟩) ha0).trans a1; have b2 := (hb6.cell (p := ⟨w.heap.size + 1, 0, none⟩) ha1).trans a2; have b3 := (hb6.cell (p := ⟨w.heap.size + 1, 1, none⟩) ha1).trans a3; have hb_0 := Nat.lt_of_lt_of_le ha0 hb6.size; have hb_1 := Nat.lt_of_lt_of_le ha1 hb6.size;  clear ho6 hb6)
    | (go_simp; go_at_call 96; (with_reducible refine (HSUM.out _ _ _ _ (numR_below H5.out.numR H6.out.bel) H6.out.numR rfl).mono ?_); rintro e w7 ⟨⟨v7, rfl, h7⟩, hb7⟩; have H7 : Hid (World.numR w7 v7 M) := h7; have HB7 := Lib.hid hb7; have d0 := (hb7.cell (p := ⟨w.heap.size, 0, none⟩) hb_0).trans b0; have d1 := (hb7.cell (p := ⟨w.heap.size, 1, none⟩) hb_0).trans b1; have d2 := (hb7.cell (p := ⟨w.heap.size + 1, 0, none⟩) hb_1).trans b2; have d3 := (hb7.cell (p := ⟨w.heap.size + 1, 1, none⟩) hb_1).trans b3; have hd_0 := Nat.lt_of_lt_of_le hb_0 hb7.size; have hd_1 := Nat.lt_of_lt_of_le hb_1 hb7.size;  clear h7 hb7)
    | (go_simp; go_at_call 68; (with_reducible refine (HFF.out _ _ _ H7.out rfl).mono ?_); rintro e w8 ⟨rfl, hb8⟩; have q0 := (hb8.cell (p := ⟨w.heap.size, 0, none⟩) hd_0).trans d0; have q1 := (hb8.cell (p := ⟨w.heap.size, 1, none⟩) hd_0).trans d1; have q2 := (hb8.cell (p := ⟨w.heap.size + 1, 0, none⟩) hd_1).trans d2; have q3 := (hb8.cell (p := ⟨w.heap.size + 1, 1, none⟩) hd_1).trans d3; have hq_0 := Nat.lt_of_lt_of_le hd_0 hb8.size; have hq_1 := Nat.lt_of_lt_of_le hd_1 hb8.size;  have HB8 := Lib.hid (H5.out.belD.trans (((H6.out.bel.trans (HB7.out.mono H6.out.bel.size)).trans (hb8.mono (Nat.le_trans H6.out.bel.size HB7.out.size))).mono H5.out.belD.size)); have K28 := (HB8.out.block _ hl2).trans HK2.out; have HK28 := Lib.hid K28; obtain ⟨e28, e29, f28⟩ := wide_cells K28; clear hb8 K28))
  all_goals
   go_wp2
   have m2 := wide_set HK28.out fb ft
   have hb9 := below_set2 (p := w.heap.size + 1 + 1) (HBw1.out.trans (HB8.out.mono HBw1.out.size)) (by omega) fb ft
   obtain ⟨d20, d21, -⟩ := wide_cells m2
   clear m2
   generalize (w8.setCell ⟨w.heap.size + 1 + 1, 0, none⟩ (.bool fb)).setCell ⟨w.heap.size + 1 + 1, 1, none⟩ (.string ft) = W9 at d20 d21 hb9 ⊢
   rw [HP.out]
   exact bodyPost_ret (v := .tuple #[.agg #[.bool fb, .string ft], .int .i64 E]) (by simp [results, Tryz.results75, go_sem, d20, d21]) rfl ⟨by rw [HRES.out], hb9⟩
end
/- Wide integers: helpers and walks, in one text (XR6 XR7 XR8 XR9). -/
/- The reference's numbers with signs: the form of a number. -/
section
open Go.RowKit Go.Shelf Go.WideNum
theorem words_cons {B : Nat} (hB : 1 < B) (x : Nat) (h : x ≠ 0) : words B x = x % B :: words B (x / B) := by
 obtain ⟨f, rfl⟩ : ∃ f, x = f + 1 := ⟨x - 1, by omega⟩
 show wordsOf B (f + 1) (f + 1) = _
 rw [wordsOf, if_neg h]
 congr 1
 have hv : valW B (words B ((f + 1) / B)) = (f + 1) / B := val_words hB _ _ (Nat.le_refl _)
 have hd : (f + 1) / B ≤ f := by have := Nat.div_lt_self (show 0 < f + 1 by omega) hB; omega
 have := words_val hB (words B ((f + 1) / B)) (words_lt (by omega) _ _) (words_trimmed hB _ _ (Nat.le_refl _)) f (by rw [hv]; exact hd)
 rw [hv] at this
 exact this
def bytesH (n k : Nat) : List Nat := (words 256 (n / 65536 ^ k)).reverse
theorem bytesH_two (n k : Nat) (h : n / 65536 ^ (k + 1) ≠ 0 ∨ 256 ≤ dig 65536 n k) : bytesH n k = bytesH n (k + 1) ++ [dig 65536 n k / 256] ++ [dig 65536 n k % 256] := by
 unfold bytesH
 have e := div_pow_succ 65536 n k
 have hd := hw_dig n k
 generalize n / 65536 ^ (k + 1) = m at *
 generalize dig 65536 n k = d at *
 rw [e, words_cons (by omega) _ (by omega), words_cons (by omega) _ (by omega)]
 rw [show (d + 65536 * m) % 256 = d % 256 by omega, show (d + 65536 * m) / 256 % 256 = d / 256 by omega, show (d + 65536 * m) / 256 / 256 = m by omega]
 simp
theorem bytesH_one (n k : Nat) (h : n / 65536 ^ (k + 1) = 0) (h2 : dig 65536 n k < 256) (h0 : dig 65536 n k ≠ 0) : bytesH n k = bytesH n (k + 1) ++ [dig 65536 n k % 256] := by
 unfold bytesH
 have e := div_pow_succ 65536 n k
 rw [h] at e ⊢
 generalize dig 65536 n k = d at *
 rw [e, Nat.mul_zero, Nat.add_zero, words_cons (by omega) _ h0, Nat.div_eq_of_lt h2]
 rfl
theorem bytesH_nil (n k : Nat) : (bytesH n k).length = 0 ↔ n / 65536 ^ k = 0 := by
 unfold bytesH
 rw [List.length_reverse]
 exact words_len0 (by omega) _
theorem bytesH_top (n : Nat) : bytesH n (hw n).length = [] := by
 unfold bytesH
 rw [Nat.div_eq_of_lt (hw_vlt n)]; rfl
theorem bytesH_zero (n : Nat) : bytesH n 0 = (words 256 n).reverse := by simp [bytesH]
theorem bytesH_lt (n k : Nat) : ∀ x ∈ bytesH n k, x < 256 := fun x hx => words_lt (by omega) _ _ x (List.mem_reverse.1 hx)
theorem bytesH_len (n k L : Nat) (h : n < 65536 ^ L) : (bytesH n k).length ≤ 2 * L := by
 unfold bytesH
 rw [List.length_reverse]
 exact words_length (by omega) _ _ (by rw [← pow2]; exact Nat.lt_of_le_of_lt (Nat.div_le_self _ _) h)
theorem conv_nil (c : Nat) (hc : c = 0) (W : World) : (convert 98 9 (.slice none 0 c)).run Tryz.prog W = .ok (.string ⟨#[]⟩) W := by
 subst hc; kernel_rfl
set_option maxRecDepth 100000 in
theorem bytes_string {W : World} {base n m c : Nat} {a : Option Addr} (h : W.owns base 5 1 (.slice a m c) m ((bytesH n 0).map u8V)) :
  (convert 98 9 (.slice a m c)).run Tryz.prog W = .ok (.string (magB n)) W := by
 have e : (bytesH n 0).map UInt8.ofNat = magL n := by rw [bytesH_zero, List.map_reverse]; rfl
 unfold magB
 rw [← e]
 rcases h.2 with ⟨e1, e2⟩ | ⟨g, cap, cur, fz, e1, _⟩
 ·injection e1 with e3 e4 e5
  subst e3 e4 e5
  have hl := h.1
  simp only [List.length_map, Nat.zero_mul] at hl
  rw [List.eq_nil_of_length_eq_zero hl]
  exact conv_nil 0 rfl W
 ·injection e1 with e3 e4 e5
  subst e3 e5
  exact own_string h (bytesH_lt n 0) 9 (by kernel_rfl)
theorem hout_any (s : Bool) (n L : Nat) (hn : n < 65536 ^ L) (hL : L ≤ 10000) (v : Value) (w : World) (hv : World.rawH w v n L) :
  Calls Tryz.prog 37 #[.agg #[.bool s, v]] w (FormRet w s n) := by
 obtain ⟨a, c, hva, -, -, -⟩ := rawH_words hv
 subst hva
 have HV : Hid (World.rawH w (.slice a L c) n L) := hv
 clear hv
 obtain ⟨W0, hW0⟩ : ∃ W0, W0 = (w.alloc (.cells #[.bool s, .slice a L c] 72)).alloc (.cells #[.bool false, .string ⟨#[]⟩] 40) := ⟨_, rfl⟩
 have g0 : W0.heap[w.heap.size]? = some (.cells #[.bool s, .slice a L c] 72) := by rw [hW0, Below.heap_alloc _ _ _ (by simp)]; exact heap_alloc_new w _
 have g1 : W0.heap[w.heap.size + 1]? = some (.cells #[.bool false, .string ⟨#[]⟩] 40) := by rw [hW0]; exact alloc_last _ _ (by simp)
 have hb0 : Below w.heap.size w W0 := by rw [hW0]; exact (((Below.refl _ w).alloc (Nat.le_refl _) _).alloc (by simp) _)
 have HB0 := Lib.hid hb0
 have HG0 := Lib.hid g0
 have HG1 := Lib.hid g1
 obtain ⟨c00, c01, f00, f01⟩ := num_cells g0
 have HW0 := Lib.hid hW0
 obtain ⟨S, hS⟩ : ∃ S, S = (s && decide (n ≠ 0)) := ⟨_, rfl⟩
 have htr := fun W => fun h => htrim_any s n L hn hL (.slice a L c) W h
 rw [← hS] at htr
 have HTR := Lib.hid htr
 have HBL : Hid (∀ k, (bytesH n k).length ≤ 20000) := fun k => Nat.le_trans (bytesH_len n k L hn) (by omega)
 have HO : Hid (outB s n = (if n < lim then .agg #[.bool S, .string (magB n)] else .agg #[.bool false, .string ⟨#[]⟩]) ∧ outE n = if n < lim then 0 else 7) := by
  refine ⟨?_, rfl⟩
  unfold outB emptyW wideV
  rw [hS]
 have HML : Hid ((hw n).length ≤ 10000) := Nat.le_trans (hw_len_le hn) hL
 obtain ⟨HPOST, hpost⟩ : ∃ R, R = FormRet w s n := ⟨_, rfl⟩
 rw [← hpost]
 have HP := Lib.hid hpost
 clear hb0 g0 g1 hW0 hn hS htr hpost
 go_enter Tryz.func37, Tryz.ntmps37
 go_upto_region 1 with (fail)
 rw [← HW0.out]
 go_wp2_with fail
 (with_reducible refine (HTR.out _ (rawH_below HV.out HB0.out)).mono ?_)
 rintro e w5 ⟨v5, rfl, hn5, hb5⟩
 obtain ⟨a5, M, c5, hM, rfl, hc5, hm5, hs5⟩ := numH_words hn5
 have hg5 := (hb5.block (w.heap.size) (lt_of_heap HG0.out)).trans HG0.out
 have hg51 := (hb5.block (w.heap.size + 1) (lt_of_heap HG1.out)).trans HG1.out
 have HB5 := Lib.hid (HB0.out.trans (hb5.mono HB0.out.size))
 have HN5 := Lib.hid hn5
 have HG5 := Lib.hid hg5
 have HG51 := Lib.hid hg51
 have HM := Lib.hid hM
 have hM1 : M ≤ 10000 := by rw [hM]; exact HML.out
 have hML : (M : Int) ≤ 10000 := by omega
 clear c00 c01 f00 f01
 obtain ⟨d0, d1, fz0, fz1⟩ := num_cells hg5
 clear hn5 hb5 hg5 hg51 hs5 hM hm5
 go_wp2_with fail
 clear d0 d1 fz0 fz1
 have m2 := num_set HG5.out (.bool S) (.slice a5 M c5)
 have hb2 : Below w.heap.size w ((w5.setCell ⟨w.heap.size, 0, none⟩ (.bool S)).setCell ⟨w.heap.size, 1, none⟩ (.slice a5 M c5)) := (HB5.out.setCell (by simp) _).setCell (by simp) _
 have hn2 := numH_set HN5.out HG5.out (.bool S) (.slice a5 M c5)
 have hr2 := (two_other (W := w5) (p := w.heap.size) (.bool S) (.slice a5 M c5) (w.heap.size + 1) (by omega)).trans HG51.out
 generalize (w5.setCell ⟨w.heap.size, 0, none⟩ (.bool S)).setCell ⟨w.heap.size, 1, none⟩ (.slice a5 M c5) = W2 at m2 hb2 hn2 hr2 ⊢
 obtain ⟨a', M', c', hM', e', hc', hm', hs'⟩ := numH_words hn2
 injection e' with e1 e2 e3
 subst e1 e2 e3
 have HS2 := Lib.hid hs'
 have HM2 := Lib.hid m2
 have HB2 := Lib.hid hb2
 have HR2 := Lib.hid hr2
 clear m2 hb2 hn2 hr2 hM' hs' hm'
 go_loopw [4, 5] (fun bv iv wr => ∃ (k m : Nat) (xa : Option Addr) (xc : Nat), k ≤ M ∧ iv = .int .i64 ((k : Int) - 1) ∧ bv = .slice xa m xc ∧ Hid (m = (bytesH n k).length) ∧ Hid (wr.owns W2.heap.size 5 1 (.slice xa m xc) m ((bytesH n k).map u8V)) ∧ Hid (Below W2.heap.size W2 wr)) (fun _ iv _ => (intOf iv + 1).toNat)
 case atStart => exact ⟨M, 0, none, 0, Nat.le_refl _, rfl, rfl, by show _ = _; rw [HM.out, bytesH_top]; rfl, by show World.owns _ _ _ _ _ _ _; rw [HM.out, bytesH_top]; exact owns_nil _ _ _, Below.refl _ W2⟩
 case round =>
  obtain ⟨k, m, xa, xc, hk, rfl, rfl, hml, hO, hB⟩ := hrel
  have hz := hB.out.size
  have hgr := (hB.out.block _ (lt_of_heap HM2.out)).trans HM2.out
  obtain ⟨c0, c1, f0, f1⟩ := num_cells hgr
  clear hgr
  cases k with
  | zero =>
   have h0 : ¬ (0 : Int) ≤ ((0 : Nat) : Int) - 1 := by omega
   have hcv := bytes_string hO.out
   have hg1 := (hB.out.block _ (lt_of_heap HR2.out)).trans HR2.out
   obtain ⟨d0, d1, fz0, fz1⟩ := num_cells hg1
   have HG1 := Lib.hid hg1
   have hN : m = (words 256 n).length := by rw [hml.out, bytesH_zero, List.length_reverse]
   have hli := lim_iff n m hN
   have hbw := HB2.out.trans (hB.out.mono HB2.out.size)
   have HBW := Lib.hid hbw
   obtain ⟨mb, hmb⟩ : ∃ mb, mb = magB n := ⟨_, rfl⟩
   rw [← hmb] at hcv HO
   clear hg1 hN hbw hmb
   by_cases hlt : n < lim
   ·have hm256 : ¬ (256 : Int) < (m : Int) := by have := hli.1 hlt; omega
    have HO1 := Lib.hid (show outB s n = .agg #[.bool S, .string mb] by rw [HO.out.1, if_pos hlt])
    have HO2 := Lib.hid (show outE n = 0 by rw [HO.out.2, if_pos hlt])
    clear hli hlt
    go_wp2
    have m2 := num_set HG1.out (.bool S) (.string mb)
    have hb9 : Below w.heap.size w ((wr.setCell ⟨w.heap.size + 1, 0, none⟩ (.bool S)).setCell ⟨w.heap.size + 1, 1, none⟩ (.string mb)) := (HBW.out.setCell (by simp) _).setCell (by simp) _
    obtain ⟨d20, d21, -, -⟩ := num_cells m2
    clear m2 d0 d1 fz0 fz1
    generalize (wr.setCell ⟨w.heap.size + 1, 0, none⟩ (.bool S)).setCell ⟨w.heap.size + 1, 1, none⟩ (.string mb) = W9 at d20 d21 hb9 ⊢
    rw [HP.out]
    exact bodyPost_ret (v := .tuple #[.agg #[.bool S, .string mb], .int .i64 0]) (by simp [results, Tryz.results37, go_sem, d20, d21]) rfl ⟨by rw [HO1.out, HO2.out], hb9⟩
   ·have hm256 : (256 : Int) < (m : Int) := by
     rcases Nat.lt_or_ge 256 m with h | h
     ·omega
     ·exact absurd (hli.2 h) hlt
    have HO1 := Lib.hid (show outB s n = .agg #[.bool false, .string ⟨#[]⟩] by rw [HO.out.1, if_neg hlt])
    have HO2 := Lib.hid (show outE n = 7 by rw [HO.out.2, if_neg hlt])
    clear hli hlt
    go_wp2
    have m2 := num_set HG1.out (.bool false) (.string ⟨#[]⟩)
    have hb9 : Below w.heap.size w ((wr.setCell ⟨w.heap.size + 1, 0, none⟩ (.bool false)).setCell ⟨w.heap.size + 1, 1, none⟩ (.string ⟨#[]⟩)) := (HBW.out.setCell (by simp) _).setCell (by simp) _
    obtain ⟨d20, d21, -, -⟩ := num_cells m2
    clear m2 d0 d1 fz0 fz1
    generalize (wr.setCell ⟨w.heap.size + 1, 0, none⟩ (.bool false)).setCell ⟨w.heap.size + 1, 1, none⟩ (.string ⟨#[]⟩) = W9 at d20 d21 hb9 ⊢
    rw [HP.out]
    exact bodyPost_ret (v := .tuple #[.agg #[.bool false, .string ⟨#[]⟩], .int .i64 7]) (by simp [results, Tryz.results37, go_sem, d20, d21]) rfl ⟨by rw [HO1.out, HO2.out], hb9⟩
  | succ j =>
   rw [show ((j + 1 : Nat) : Int) - 1 = (j : Int) by omega]
   obtain ⟨b, off, rfl, hbl, hx0⟩ := HS2.out j (by omega)
   have hx := (hB.out.cell (p := ⟨b, off + j, none⟩) hbl).trans hx0
   have hdl := hw_dig n j
   have hnil := bytesH_nil n (j + 1)
   rw [← hml.out] at hnil
   have hm20 := HBL.out (j + 1)
   rw [← hml.out] at hm20
   have h2 := bytesH_two n j
   have h1 := bytesH_one n j
   have htop : j + 1 = M → dig 65536 n j ≠ 0 := fun h => hw_top (by rw [← HM.out]; exact h.symm)
   have hnz : n / 65536 ^ (j + 1) = 0 → dig 65536 n j ≠ 0 := fun h => by
    refine htop ?_
    have h3 := hw_len_le (n := n) (k := j + 1) (by
     rcases Nat.lt_or_ge n (65536 ^ (j + 1)) with h4 | h4
     ·exact h4
     ·have := Nat.div_pos h4 (Nat.pow_pos (show 0 < 65536 by omega)); omega)
    rw [← HM.out] at h3
    omega
   obtain ⟨d, ed⟩ : ∃ x, x = dig 65536 n j := ⟨_, rfl⟩
   rw [← ed] at hx hdl h2 h1 hnz
   obtain ⟨p, ep⟩ : ∃ x, x = d / 256 := ⟨_, rfl⟩
   obtain ⟨q, eq⟩ : ∃ x, x = d % 256 := ⟨_, rfl⟩
   rw [← ep, ← eq] at h2
   rw [← eq] at h1
   have t2 : (d : Int) / 256 = (p : Int) := by omega
   have t3 : (p : Int) % 256 = (p : Int) := by omega
   have t4 : (d : Int) % 256 = (q : Int) := by omega
   have t5 : (q : Int) % 256 = (q : Int) := by omega
   have hwl := lt_of_heap HM2.out
   have hjM : (j : Int) < (M : Int) := by omega
   have hj0 : (0 : Int) ≤ (j : Int) := by omega
   clear hx0 htop ep eq
   by_cases hd : 256 ≤ d
   ·have HST := Lib.hid (h2 (.inr hd))
    have u1 : (256 : Int) ≤ (d : Int) := by omega
    clear h2 h1 hnil hnz ed
    go_wp2_with (first | (at_builtin; refine app_u8 wr rfl (.tmp 27) (.tmp 35) rfl W2.heap.size (.slice xa m xc) m _ rfl hO.out (p : Int) wr.heap.size rfl rfl (by omega) hz ?_; intro v6 w6 hown6 hg6 hz6; have HO6 := Lib.hid hown6; obtain ⟨g6, q6, rfl⟩ := hown6.succ; have hb6 := below_grown hO.out hg6 W2.heap.size (Nat.le_refl _) hz; have HB6 := Lib.hid (hB.out.trans hb6); have hz7 := Nat.le_trans hz (Nat.le_of_lt hz6); have k0 := (hb6.cell (p := ⟨w.heap.size, 0, none⟩) hwl).trans c0; have k1 := (hb6.cell (p := ⟨w.heap.size, 1, none⟩) hwl).trans c1; have kx := (hb6.cell (p := ⟨b, off + j, none⟩) hbl).trans hx; clear hown6 hg6 hb6 hz6) | (at_builtin; refine app_u8 w6 rfl (.tmp 37) (.tmp 45) rfl W2.heap.size (.slice (some ⟨g6, 0, none⟩) (m + 1) q6) (m + 1) _ rfl HO6.out (q : Int) w6.heap.size rfl rfl (by omega) hz7 ?_; intro v8 w8 hown8 hg8 hz8; have HO8 := Lib.hid hown8; obtain ⟨g8, q8, rfl⟩ := hown8.succ; have HB8 := Lib.hid (HB6.out.trans (below_grown HO6.out hg8 W2.heap.size (Nat.le_refl _) hz7)); clear hown8 hg8 hz8))
    go_roundw
    case rel =>
     refine ⟨j, m + 1 + 1, some ⟨g8, 0, none⟩, q8, by omega, by first | go_num | rfl, rfl, ?_, ?_, HB8.out⟩
     ·show _ = _; rw [HST.out, hml.out]; simp
     ·show World.owns _ _ _ _ _ _ _
      rw [HST.out, List.map_append, List.map_append]
      exact HO8.out
    case measure => first | (simp [intOf]; done) | (simp [intOf]; omega)
   ·have u1 : ¬ (256 : Int) ≤ (d : Int) := by omega
    by_cases hm0 : n / 65536 ^ (j + 1) = 0
    ·have HST := Lib.hid (h1 hm0 (by omega) (hnz hm0))
     have u2 : ¬ (0 : Int) < (m : Int) := by have := hnil.2 hm0; omega
     clear h2 h1 hnil hnz hm0 ed
     go_wp2_with (at_builtin; refine app_u8 wr rfl (.tmp 37) (.tmp 45) rfl W2.heap.size (.slice xa m xc) m _ rfl hO.out (q : Int) wr.heap.size rfl rfl (by omega) hz ?_; intro v8 w8 hown8 hg8 hz8; have HO8 := Lib.hid hown8; obtain ⟨g8, q8, rfl⟩ := hown8.succ; have HB8 := Lib.hid (hB.out.trans (below_grown hO.out hg8 W2.heap.size (Nat.le_refl _) hz)); clear hown8 hg8 hz8)
     go_roundw
     case rel =>
      refine ⟨j, m + 1, some ⟨g8, 0, none⟩, q8, by omega, by first | go_num | rfl, rfl, ?_, ?_, HB8.out⟩
      ·show _ = _; rw [HST.out, hml.out]; simp
      ·show World.owns _ _ _ _ _ _ _
       rw [HST.out, List.map_append]
       exact HO8.out
     case measure => first | (simp [intOf]; done) | (simp [intOf]; omega)
    ·have HST := Lib.hid (h2 (.inl hm0))
     have u2 : (0 : Int) < (m : Int) := by
      rcases Nat.eq_zero_or_pos m with h | h
      ·exact absurd (hnil.1 h) hm0
      ·omega
     clear h2 h1 hnil hnz hm0 ed
     go_wp2_with (first | (at_builtin; refine app_u8 wr rfl (.tmp 27) (.tmp 35) rfl W2.heap.size (.slice xa m xc) m _ rfl hO.out (p : Int) wr.heap.size rfl rfl (by omega) hz ?_; intro v6 w6 hown6 hg6 hz6; have HO6 := Lib.hid hown6; obtain ⟨g6, q6, rfl⟩ := hown6.succ; have hb6 := below_grown hO.out hg6 W2.heap.size (Nat.le_refl _) hz; have HB6 := Lib.hid (hB.out.trans hb6); have hz7 := Nat.le_trans hz (Nat.le_of_lt hz6); have k0 := (hb6.cell (p := ⟨w.heap.size, 0, none⟩) hwl).trans c0; have k1 := (hb6.cell (p := ⟨w.heap.size, 1, none⟩) hwl).trans c1; have kx := (hb6.cell (p := ⟨b, off + j, none⟩) hbl).trans hx; clear hown6 hg6 hb6 hz6) | (at_builtin; refine app_u8 w6 rfl (.tmp 37) (.tmp 45) rfl W2.heap.size (.slice (some ⟨g6, 0, none⟩) (m + 1) q6) (m + 1) _ rfl HO6.out (q : Int) w6.heap.size rfl rfl (by omega) hz7 ?_; intro v8 w8 hown8 hg8 hz8; have HO8 := Lib.hid hown8; obtain ⟨g8, q8, rfl⟩ := hown8.succ; have HB8 := Lib.hid (HB6.out.trans (below_grown HO6.out hg8 W2.heap.size (Nat.le_refl _) hz7)); clear hown8 hg8 hz8))
     go_roundw
     case rel =>
      refine ⟨j, m + 1 + 1, some ⟨g8, 0, none⟩, q8, by omega, by first | go_num | rfl, rfl, ?_, ?_, HB8.out⟩
      ·show _ = _; rw [HST.out, hml.out]; simp
      ·show World.owns _ _ _ _ _ _ _
       rw [HST.out, List.map_append, List.map_append]
       exact HO8.out
     case measure => first | (simp [intOf]; done) | (simp [intOf]; omega)
end
/- The reference's numbers with signs: the sum. -/
section
open Go.RowKit Go.Shelf Go.WideNum
theorem hw_len_add {A C : Nat} (ha : (hw A).length ≤ 4000) (hc : (hw C).length ≤ 4000) : (hw (A + C)).length ≤ 4001 := by
 obtain ⟨K, hK⟩ : ∃ K, K = 4000 := ⟨_, rfl⟩
 rw [← hK] at ha hc
 have e1 := Nat.lt_of_lt_of_le (hw_vlt A) (Nat.pow_le_pow_right (show 0 < 65536 by omega) ha)
 have e2 := Nat.lt_of_lt_of_le (hw_vlt C) (Nat.pow_le_pow_right (show 0 < 65536 by omega) hc)
 have h3 : A + C < 65536 ^ (K + 1) := by
  rw [Nat.pow_succ]
  generalize 65536 ^ K = P at *
  omega
 have := hw_len_le h3
 omega
theorem hw_lt_sub {A C : Nat} : A - C < 65536 ^ (hw A).length := Nat.lt_of_le_of_lt (Nat.sub_le _ _) (hw_vlt A)
theorem lt_of_cell {w : World} {b o : Nat} {v : Value} (h : w.cell? ⟨b, o, none⟩ = some v) : b < w.heap.size := by
 rcases Nat.lt_or_ge b w.heap.size with h1 | h1
 ·exact h1
 ·rw [World.cell?, Array.getElem?_eq_none h1] at h; cases h
theorem hadd_any (an : Bool) (A : Nat) (va : Value) (bn : Bool) (C : Nat) (vb : Value) (w : World) (hA : World.numH w va A) (hC : World.numH w vb C) (hla : (hw A).length ≤ 4000) (hlc : (hw C).length ≤ 4000) :
  Calls Tryz.prog 85 #[.agg #[.bool an, va], .agg #[.bool bn, vb]] w (SRet w (sumS A an C bn && decide (sumN A an C bn ≠ 0)) (sumN A an C bn)) := by
 have HA : Hid (World.numH w va A) := hA
 have HC : Hid (World.numH w vb C) := hC
 obtain ⟨aa, p, ca, -, rfl, -, -, -⟩ := numH_words hA
 obtain ⟨ab, q, cb, -, rfl, -, -, -⟩ := numH_words hC
 clear hA hC
 obtain ⟨W0, hW0⟩ : ∃ W0, W0 = ((w.alloc (.cells #[.bool an, .slice aa p ca] 72)).alloc (.cells #[.bool bn, .slice ab q cb] 72)).alloc (.cells #[.bool false, .slice none 0 0] 72) := ⟨_, rfl⟩
 have g0 : W0.heap[w.heap.size]? = some (.cells #[.bool an, .slice aa p ca] 72) := by rw [hW0, Below.heap_alloc _ _ _ (by simp; omega), Below.heap_alloc _ _ _ (by simp)]; exact heap_alloc_new w _
 have g1 : W0.heap[w.heap.size + 1]? = some (.cells #[.bool bn, .slice ab q cb] 72) := by rw [hW0, Below.heap_alloc _ _ _ (by simp)]; exact alloc_last _ _ (by simp)
 have g2 : W0.heap[w.heap.size + 1 + 1]? = some (.cells #[.bool false, .slice none 0 0] 72) := by rw [hW0]; exact alloc_last _ _ (by simp)
 have hb0 : Below w.heap.size w W0 := by rw [hW0]; exact ((((Below.refl _ w).alloc (Nat.le_refl _) _).alloc (by simp) _).alloc (by simp; omega) _)
 have HB0 := Lib.hid hb0
 have HG0 := Lib.hid g0
 have HG1 := Lib.hid g1
 have HG2 := Lib.hid g2
 obtain ⟨c00, c01, f00, f01⟩ := num_cells g0
 obtain ⟨c10, c11, f10, f11⟩ := num_cells g1
 have HW0 := Lib.hid hW0
 have HNA := Lib.hid (numH_below HA.out hb0)
 have HNC := Lib.hid (numH_below HC.out hb0)
 obtain ⟨S, hS⟩ : ∃ S, S = (sumS A an C bn && decide (sumN A an C bn ≠ 0)) := ⟨_, rfl⟩
 obtain ⟨N, hN⟩ : ∃ N, N = sumN A an C bn := ⟨_, rfl⟩
 rw [← hN] at hS ⊢
 rw [← hS]
 obtain ⟨HPOST, hpost⟩ : ∃ R, R = SRet w S N := ⟨_, rfl⟩
 rw [← hpost]
 have HP := Lib.hid hpost
 clear hb0 g0 g1 g2 hW0 hpost
 have hz0 : w.heap.size < W0.heap.size := lt_of_heap HG0.out
 have hz1 : w.heap.size + 1 < W0.heap.size := lt_of_heap HG1.out
 have hz2 : w.heap.size + 1 + 1 < W0.heap.size := lt_of_heap HG2.out
 by_cases hab : an = bn
 ·subst hab
  have e1 : sumN A an C an = A + C := by unfold sumN; simp
  have e2 : sumS A an C an = an := by unfold sumS; simp
  rw [e1] at hN
  rw [e2] at hS
  subst hN
  have HCA := Lib.hid (hplus_any A C _ _ W0.drew HNA.out.drew HNC.out.drew hla hlc)
  have HTR : Hid (∀ v W, World.rawH W v (A + C) (hw (A + C)).length → Calls Tryz.prog 65 #[.agg #[.bool an, v]] W (SRet W S (A + C))) := fun v W h => by rw [hS]; exact htrim_any an (A + C) _ (hw_vlt _) (Nat.le_trans (hw_len_add hla hlc) (by omega)) v W h
  have HRAW : Hid (∀ v W, World.numH W v (A + C) → World.rawH W v (A + C) (hw (A + C)).length) := fun v W h => numH_raw h
  have hnn : (an == an) = true := by simp
  have HBW := HB0
  have HGR := HG2
  clear hS e1 e2
  go_enter Tryz.func85, Tryz.ntmps85
  go_upto_region 1 with (fail)
  rw [← HW0.out]
  go_wp2_with fail
  refine wp_region_line (fun w' => w'.cell? ⟨w.heap.size, 0, none⟩ = some (.bool an) ∧ w'.cell? ⟨w.heap.size, 1, none⟩ = some (.slice aa p ca) ∧ w'.cell? ⟨w.heap.size + 1, 1, none⟩ = some (.slice ab q cb)) 9 (by kernel_rfl) ⟨c00, c01, c11⟩ (fun hHeld => ?_)
  refine tkT 0 (v := ?_) rfl rfl ?_ ?_
  rotate_left
  ·(intro wq hSq; (try dsimp only at hSq); go_simp; try with_reducible rfl)
  try simp only [Act.put, List.setIfInBounds_toArray, List.set_cons_zero, List.set_cons_succ]
  refine tkT 1 (v := ?_) rfl rfl ?_ ?_
  rotate_left
  ·(intro wq hSq; (try dsimp only at hSq); go_simp; try with_reducible rfl)
  try simp only [Act.put, List.setIfInBounds_toArray, List.set_cons_zero, List.set_cons_succ]
  refine tkT 2 (v := ?_) rfl rfl ?_ ?_
  rotate_left
  ·(intro wq hSq; (try dsimp only at hSq); go_simp; try with_reducible rfl)
  try simp only [Act.put, List.setIfInBounds_toArray, List.set_cons_zero, List.set_cons_succ]
  refine tkT 3 (v := ?_) rfl rfl ?_ ?_
  rotate_left
  ·(intro wq hSq; (try dsimp only at hSq); go_simp; try with_reducible rfl)
  try simp only [Act.put, List.setIfInBounds_toArray, List.set_cons_zero, List.set_cons_succ]
  refine tkT 4 (v := ?_) rfl rfl ?_ ?_
  rotate_left
  ·(intro wq hSq; (try dsimp only at hSq); go_simp; try with_reducible rfl)
  try simp only [Act.put, List.setIfInBounds_toArray, List.set_cons_zero, List.set_cons_succ]
  refine tkT 5 (v := ?_) rfl rfl ?_ ?_
  rotate_left
  ·(intro wq hSq; (try dsimp only at hSq); go_simp; try with_reducible rfl)
  try simp only [Act.put, List.setIfInBounds_toArray, List.set_cons_zero, List.set_cons_succ]
  refine wpAnyT_step 6 (by kernel_rfl) rfl (fun K hK => ?_)
  go_simp
  go_at_call 102
  (with_reducible refine (HCA.out).mono ?_)
  rintro e w5 ⟨v5, rfl, hn5, hb5⟩
  obtain ⟨a5, L5, c5, rfl⟩ : ∃ a5 L5 c5, v5 = .slice a5 L5 c5 := by obtain ⟨x, y, h⟩ := reads_len hn5; exact ⟨x, _, y, h⟩
  have hb05 : Below W0.heap.size W0 w5 := ((Below.refl _ _).drew).trans hb5
  have k0 := (hb05.cell (p := ⟨w.heap.size, 0, none⟩) hz0).trans c00
  have k1 := (hb05.cell (p := ⟨w.heap.size, 1, none⟩) hz0).trans c01
  have k2 := (hb05.cell (p := ⟨w.heap.size + 1, 1, none⟩) hz1).trans c11
  have hg5 := (hb05.block _ hz2).trans HGR.out
  have hbw5 := HBW.out.trans (hb05.mono HBW.out.size)
  have hn5' := HRAW.out _ _ hn5
  refine hK.out _ _ ⟨k0, k1, k2⟩ (fun hHeld2 => ?_)
  have HB5 := Lib.hid hbw5
  have HN5 := Lib.hid hn5'
  have HG5 := Lib.hid hg5
  clear hb5 hn5 hb05 hg5 hbw5 hn5' hK K hHeld
  try simp only [Act.put, List.setIfInBounds_toArray, List.set_cons_zero, List.set_cons_succ]
  refine tkT 7 (v := ?_) rfl rfl ?_ ?_
  rotate_left
  ·(intro wq hSq; (try dsimp only at hSq); go_simp; try with_reducible rfl)
  try simp only [Act.put, List.setIfInBounds_toArray, List.set_cons_zero, List.set_cons_succ]
  refine wpAnyT_step 8 (by kernel_rfl) rfl (fun K hK => ?_)
  go_simp
  go_at_call 65
  (with_reducible refine (HTR.out _ _ HN5.out).mono ?_)
  rintro e w6 ⟨v6, rfl, hn6, hb6⟩
  obtain ⟨a6, L6, c6, rfl⟩ : ∃ a5 L5 c5, v6 = .slice a5 L5 c5 := by obtain ⟨x, y, h⟩ := reads_len hn6; exact ⟨x, _, y, h⟩
  have hz5 := HB5.out.size
  have i0 := (hb6.cell (p := ⟨w.heap.size, 0, none⟩) (lt_of_cell k0)).trans k0
  have i1 := (hb6.cell (p := ⟨w.heap.size, 1, none⟩) (lt_of_cell k1)).trans k1
  have i2 := (hb6.cell (p := ⟨w.heap.size + 1, 1, none⟩) (lt_of_cell k2)).trans k2
  have hg6 := (hb6.block _ (lt_of_heap HG5.out)).trans HG5.out
  have hbw6 := HB5.out.trans (hb6.mono HB5.out.size)
  refine hK.out _ _ ⟨i0, i1, i2⟩ (fun hHeld3 => ?_)
  have HB6 := Lib.hid hbw6
  have HN6 := Lib.hid hn6
  have HG6 := Lib.hid hg6
  obtain ⟨d0, d1, fz0, fz1⟩ := num_cells hg6
  clear hb6 hn6 hg6 hbw6 hz5 k0 k1 k2 hK K hHeld2
  try simp only [Act.put, List.setIfInBounds_toArray, List.set_cons_zero, List.set_cons_succ]
  refine wpAnyT_last (by kernel_rfl) (by kernel_rfl) rfl (fun K hK => ?_)
  go_simp
  refine hK.out _ _ ?_
  clear hK K hHeld3
  have m2 := num_set HG6.out (.bool S) (.slice a6 L6 c6)
  have hb9 : Below w.heap.size w ((w6.setCell ⟨w.heap.size + 1 + 1, 0, none⟩ (.bool S)).setCell ⟨w.heap.size + 1 + 1, 1, none⟩ (.slice a6 L6 c6)) := (HB6.out.setCell (by simp; omega) _).setCell (by simp; omega) _
  have hn9 := numH_set HN6.out HG6.out (.bool S) (.slice a6 L6 c6)
  obtain ⟨d20, d21, -, -⟩ := num_cells m2
  clear m2 d0 d1 fz0 fz1 i0 i1 i2
  generalize (w6.setCell ⟨w.heap.size + 1 + 1, 0, none⟩ (.bool S)).setCell ⟨w.heap.size + 1 + 1, 1, none⟩ (.slice a6 L6 c6) = W9 at d20 d21 hb9 hn9 ⊢
  have HB9 := Lib.hid hb9
  have HN9 := Lib.hid hn9
  clear hb9 hn9
  go_wp2
  rw [HP.out]
  exact bodyPost_ret (v := .agg #[.bool S, .slice a6 L6 c6]) (by simp [results, Tryz.results85, go_sem, d20, d21]) rfl ⟨.slice a6 L6 c6, rfl, HN9.out, HB9.out⟩
 ·obtain rfl : bn = !an := by cases an <;> cases bn <;> first | rfl | exact absurd rfl hab
  have hnn : (an == !an) = false := by cases an <;> rfl
  have HOR := Lib.hid (order_num A C _ _ W0 HNA.out HNC.out hla hlc)
  by_cases hlt : A < C
  ·have e1 : sumN A an C (!an) = C - A := by unfold sumN; rw [if_neg hab, if_pos hlt]
   have e2 : sumS A an C (!an) = !an := by unfold sumS; rw [if_neg hab, if_pos hlt]
   rw [e1] at hN
   rw [e2] at hS
   obtain ⟨R, hR⟩ : ∃ R, R = cmpN A C := ⟨_, rfl⟩
   rw [← hR] at HOR
   obtain rfl : R = -1 := by rw [hR, cmpN, if_pos hlt]
   subst hN
   have HNT := Lib.hid hnn
   have HMN : Hid (∀ W va vb, World.numH W va C → World.numH W vb A → Calls Tryz.prog 104 #[va, vb] W (RawRet W (C - A) (hw C).length)) := fun W va vb h1 h2 => hminus_any C A (Nat.le_of_lt hlt) va vb W h1 h2 hlc hla
   have HTR : Hid (∀ v W, World.rawH W v (C - A) (hw C).length → Calls Tryz.prog 65 #[.agg #[.bool (!an), v]] W (SRet W S (C - A))) := fun v W h => by rw [hS]; exact htrim_any (!an) (C - A) _ hw_lt_sub (Nat.le_trans hlc (by omega)) v W h
   have HRAW : Hid (∀ v W, World.rawH W v (C - A) (hw C).length → World.rawH W v (C - A) (hw C).length) := fun v W h => h
   clear hS e1 e2 hR
   go_enter Tryz.func85, Tryz.ntmps85
   go_upto_region 1 with (fail)
   rw [← HW0.out]
   go_wp2_with fail
   (with_reducible refine (HOR.out).mono ?_)
   rintro e Wa ⟨rfl, n1, hw1⟩
   have hbd : Below W0.heap.size W0 Wa := by rw [hw1]; exact below_drewN (Below.refl _ _) n1
   have ga := (hbd.block _ hz0).trans HG0.out
   have gb := (hbd.block _ hz1).trans HG1.out
   have gr := (hbd.block _ hz2).trans HG2.out
   have hna := numH_below HNA.out hbd
   have hnc := numH_below HNC.out hbd
   have hbw := HB0.out.trans (hbd.mono HB0.out.size)
   replace hz0 := Nat.lt_of_lt_of_le hz0 hbd.size
   replace hz1 := Nat.lt_of_lt_of_le hz1 hbd.size
   replace hz2 := Nat.lt_of_lt_of_le hz2 hbd.size
   clear hbd c00 c01 c10 c11 f00 f01 f10 f11 hw1
   have HA1 := Lib.hid ga
   have HA2 := Lib.hid gb
   have HA3 := Lib.hid gr
   have HA4 := Lib.hid hna
   have HA5 := Lib.hid hnc
   have HA6 := Lib.hid hbw
   obtain ⟨c00, c01, f00, f01⟩ := num_cells ga
   obtain ⟨c10, c11, f10, f11⟩ := num_cells gb
   clear ga gb gr hna hnc hbw
   go_wp2_with fail
   have ga := HA1.out
   have gb := HA2.out
   have gr := HA3.out
   have hna := HA4.out
   have hnc := HA5.out
   have hbw := HA6.out
   clear c00 c01 c10 c11 f00 f01 f10 f11
   have ga1 := num_set ga (.bool (!an)) (.slice ab q cb)
   have gb1 := (two_other (W := Wa) (p := w.heap.size) (.bool (!an)) (.slice ab q cb) (w.heap.size + 1) (by omega)).trans gb
   have gr1 := (two_other (W := Wa) (p := w.heap.size) (.bool (!an)) (.slice ab q cb) (w.heap.size + 1 + 1) (by omega)).trans gr
   have hna1 := numH_set hna ga (.bool (!an)) (.slice ab q cb)
   have hnc1 := numH_set hnc ga (.bool (!an)) (.slice ab q cb)
   have hbw1 : Below w.heap.size w ((Wa.setCell ⟨w.heap.size, 0, none⟩ (.bool (!an))).setCell ⟨w.heap.size, 1, none⟩ (.slice ab q cb)) := (hbw.setCell (by simp) _).setCell (by simp) _
   have hs1 : ((Wa.setCell ⟨w.heap.size, 0, none⟩ (.bool (!an))).setCell ⟨w.heap.size, 1, none⟩ (.slice ab q cb)).heap.size = Wa.heap.size := by simp
   clear ga gb gr hna hnc hbw
   generalize (Wa.setCell ⟨w.heap.size, 0, none⟩ (.bool (!an))).setCell ⟨w.heap.size, 1, none⟩ (.slice ab q cb) = Wb at ga1 gb1 gr1 hna1 hnc1 hbw1 hs1 ⊢
   rw [← hs1] at hz0 hz1 hz2
   clear hs1
   have ga := (two_other (W := Wb) (p := w.heap.size + 1) (.bool an) (.slice aa p ca) (w.heap.size) (by omega)).trans ga1
   have gb := num_set gb1 (.bool an) (.slice aa p ca)
   have gr := (two_other (W := Wb) (p := w.heap.size + 1) (.bool an) (.slice aa p ca) (w.heap.size + 1 + 1) (by omega)).trans gr1
   have hna := numH_set hna1 gb1 (.bool an) (.slice aa p ca)
   have hnc := numH_set hnc1 gb1 (.bool an) (.slice aa p ca)
   have hbw : Below w.heap.size w ((Wb.setCell ⟨w.heap.size + 1, 0, none⟩ (.bool an)).setCell ⟨w.heap.size + 1, 1, none⟩ (.slice aa p ca)) := (hbw1.setCell (by simp) _).setCell (by simp) _
   have hs1 : ((Wb.setCell ⟨w.heap.size + 1, 0, none⟩ (.bool an)).setCell ⟨w.heap.size + 1, 1, none⟩ (.slice aa p ca)).heap.size = Wb.heap.size := by simp
   clear ga1 gb1 gr1 hna1 hnc1 hbw1
   generalize (Wb.setCell ⟨w.heap.size + 1, 0, none⟩ (.bool an)).setCell ⟨w.heap.size + 1, 1, none⟩ (.slice aa p ca) = W1 at ga gb gr hna hnc hbw hs1 ⊢
   rw [← hs1] at hz0 hz1 hz2
   obtain ⟨q00, q01, -, -⟩ := num_cells ga
   obtain ⟨-, q11, -, -⟩ := num_cells gb
   have HGR := Lib.hid gr
   have HBW := Lib.hid hbw
   have HCA := Lib.hid (HMN.out W1.drew _ _ hnc.drew hna.drew)
   clear hs1 ga gb gr hna hnc hbw
   refine wp_region_line (fun w' => w'.cell? ⟨w.heap.size, 0, none⟩ = some (.bool (!an)) ∧ w'.cell? ⟨w.heap.size, 1, none⟩ = some (.slice ab q cb) ∧ w'.cell? ⟨w.heap.size + 1, 1, none⟩ = some (.slice aa p ca)) 9 (by kernel_rfl) ⟨q00, q01, q11⟩ (fun hHeld => ?_)
   refine tkT 0 (v := ?_) rfl rfl ?_ ?_
   rotate_left
   ·(intro wq hSq; (try dsimp only at hSq); go_simp; try with_reducible rfl)
   try simp only [Act.put, List.setIfInBounds_toArray, List.set_cons_zero, List.set_cons_succ]
   refine tkT 1 (v := ?_) rfl rfl ?_ ?_
   rotate_left
   ·(intro wq hSq; (try dsimp only at hSq); go_simp; try with_reducible rfl)
   try simp only [Act.put, List.setIfInBounds_toArray, List.set_cons_zero, List.set_cons_succ]
   refine tkT 2 (v := ?_) rfl rfl ?_ ?_
   rotate_left
   ·(intro wq hSq; (try dsimp only at hSq); go_simp; try with_reducible rfl)
   try simp only [Act.put, List.setIfInBounds_toArray, List.set_cons_zero, List.set_cons_succ]
   refine tkT 3 (v := ?_) rfl rfl ?_ ?_
   rotate_left
   ·(intro wq hSq; (try dsimp only at hSq); go_simp; try with_reducible rfl)
   try simp only [Act.put, List.setIfInBounds_toArray, List.set_cons_zero, List.set_cons_succ]
   refine tkT 4 (v := ?_) rfl rfl ?_ ?_
   rotate_left
   ·(intro wq hSq; (try dsimp only at hSq); go_simp; try with_reducible rfl)
   try simp only [Act.put, List.setIfInBounds_toArray, List.set_cons_zero, List.set_cons_succ]
   refine tkT 5 (v := ?_) rfl rfl ?_ ?_
   rotate_left
   ·(intro wq hSq; (try dsimp only at hSq); go_simp; try with_reducible rfl)
   try simp only [Act.put, List.setIfInBounds_toArray, List.set_cons_zero, List.set_cons_succ]
   refine wpAnyT_step 6 (by kernel_rfl) rfl (fun K hK => ?_)
   go_simp
   go_at_call 104
   (with_reducible refine (HCA.out).mono ?_)
   rintro e w5 ⟨v5, rfl, hn5, hb5⟩
   obtain ⟨a5, L5, c5, rfl⟩ : ∃ a5 L5 c5, v5 = .slice a5 L5 c5 := by obtain ⟨x, y, h⟩ := reads_len hn5; exact ⟨x, _, y, h⟩
   have hb05 : Below W1.heap.size W1 w5 := ((Below.refl _ _).drew).trans hb5
   have k0 := (hb05.cell (p := ⟨w.heap.size, 0, none⟩) hz0).trans q00
   have k1 := (hb05.cell (p := ⟨w.heap.size, 1, none⟩) hz0).trans q01
   have k2 := (hb05.cell (p := ⟨w.heap.size + 1, 1, none⟩) hz1).trans q11
   have hg5 := (hb05.block _ hz2).trans HGR.out
   have hbw5 := HBW.out.trans (hb05.mono HBW.out.size)
   have hn5' := HRAW.out _ _ hn5
   refine hK.out _ _ ⟨k0, k1, k2⟩ (fun hHeld2 => ?_)
   have HB5 := Lib.hid hbw5
   have HN5 := Lib.hid hn5'
   have HG5 := Lib.hid hg5
   clear hb5 hn5 hb05 hg5 hbw5 hn5' hK K hHeld
   try simp only [Act.put, List.setIfInBounds_toArray, List.set_cons_zero, List.set_cons_succ]
   refine tkT 7 (v := ?_) rfl rfl ?_ ?_
   rotate_left
   ·(intro wq hSq; (try dsimp only at hSq); go_simp; try with_reducible rfl)
   try simp only [Act.put, List.setIfInBounds_toArray, List.set_cons_zero, List.set_cons_succ]
   refine wpAnyT_step 8 (by kernel_rfl) rfl (fun K hK => ?_)
   go_simp
   go_at_call 65
   (with_reducible refine (HTR.out _ _ HN5.out).mono ?_)
   rintro e w6 ⟨v6, rfl, hn6, hb6⟩
   obtain ⟨a6, L6, c6, rfl⟩ : ∃ a5 L5 c5, v6 = .slice a5 L5 c5 := by obtain ⟨x, y, h⟩ := reads_len hn6; exact ⟨x, _, y, h⟩
   have hz5 := HB5.out.size
   have i0 := (hb6.cell (p := ⟨w.heap.size, 0, none⟩) (lt_of_cell k0)).trans k0
   have i1 := (hb6.cell (p := ⟨w.heap.size, 1, none⟩) (lt_of_cell k1)).trans k1
   have i2 := (hb6.cell (p := ⟨w.heap.size + 1, 1, none⟩) (lt_of_cell k2)).trans k2
   have hg6 := (hb6.block _ (lt_of_heap HG5.out)).trans HG5.out
   have hbw6 := HB5.out.trans (hb6.mono HB5.out.size)
   refine hK.out _ _ ⟨i0, i1, i2⟩ (fun hHeld3 => ?_)
   have HB6 := Lib.hid hbw6
   have HN6 := Lib.hid hn6
   have HG6 := Lib.hid hg6
   obtain ⟨d0, d1, fz0, fz1⟩ := num_cells hg6
   clear hb6 hn6 hg6 hbw6 hz5 k0 k1 k2 hK K hHeld2
   try simp only [Act.put, List.setIfInBounds_toArray, List.set_cons_zero, List.set_cons_succ]
   refine wpAnyT_last (by kernel_rfl) (by kernel_rfl) rfl (fun K hK => ?_)
   go_simp
   refine hK.out _ _ ?_
   clear hK K hHeld3
   have m2 := num_set HG6.out (.bool S) (.slice a6 L6 c6)
   have hb9 : Below w.heap.size w ((w6.setCell ⟨w.heap.size + 1 + 1, 0, none⟩ (.bool S)).setCell ⟨w.heap.size + 1 + 1, 1, none⟩ (.slice a6 L6 c6)) := (HB6.out.setCell (by simp; omega) _).setCell (by simp; omega) _
   have hn9 := numH_set HN6.out HG6.out (.bool S) (.slice a6 L6 c6)
   obtain ⟨d20, d21, -, -⟩ := num_cells m2
   clear m2 d0 d1 fz0 fz1 i0 i1 i2
   generalize (w6.setCell ⟨w.heap.size + 1 + 1, 0, none⟩ (.bool S)).setCell ⟨w.heap.size + 1 + 1, 1, none⟩ (.slice a6 L6 c6) = W9 at d20 d21 hb9 hn9 ⊢
   have HB9 := Lib.hid hb9
   have HN9 := Lib.hid hn9
   clear hb9 hn9
   go_wp2
   rw [HP.out]
   exact bodyPost_ret (v := .agg #[.bool S, .slice a6 L6 c6]) (by simp [results, Tryz.results85, go_sem, d20, d21]) rfl ⟨.slice a6 L6 c6, rfl, HN9.out, HB9.out⟩
  ·have e1 : sumN A an C (!an) = A - C := by unfold sumN; rw [if_neg hab, if_neg hlt]
   have e2 : sumS A an C (!an) = an := by unfold sumS; rw [if_neg hab, if_neg hlt]
   rw [e1] at hN
   rw [e2] at hS
   obtain ⟨R, hR⟩ : ∃ R, R = cmpN A C := ⟨_, rfl⟩
   rw [← hR] at HOR
   have hR0 : ¬ R < 0 := by rw [hR, cmpN, if_neg hlt]; split <;> omega
   subst hN
   have HMN : Hid (∀ W va vb, World.numH W va A → World.numH W vb C → Calls Tryz.prog 104 #[va, vb] W (RawRet W (A - C) (hw A).length)) := fun W va vb h1 h2 => hminus_any A C (Nat.le_of_not_lt hlt) va vb W h1 h2 hla hlc
   have HTR : Hid (∀ v W, World.rawH W v (A - C) (hw A).length → Calls Tryz.prog 65 #[.agg #[.bool an, v]] W (SRet W S (A - C))) := fun v W h => by rw [hS]; exact htrim_any an (A - C) _ hw_lt_sub (Nat.le_trans hla (by omega)) v W h
   have HRAW : Hid (∀ v W, World.rawH W v (A - C) (hw A).length → World.rawH W v (A - C) (hw A).length) := fun v W h => h
   clear hS e1 e2 hR
   go_enter Tryz.func85, Tryz.ntmps85
   go_upto_region 1 with (fail)
   rw [← HW0.out]
   go_wp2_with fail
   (with_reducible refine (HOR.out).mono ?_)
   rintro e Wa ⟨rfl, n1, hw1⟩
   have hbd : Below W0.heap.size W0 Wa := by rw [hw1]; exact below_drewN (Below.refl _ _) n1
   have ga := (hbd.block _ hz0).trans HG0.out
   have gb := (hbd.block _ hz1).trans HG1.out
   have gr := (hbd.block _ hz2).trans HG2.out
   have hna := numH_below HNA.out hbd
   have hnc := numH_below HNC.out hbd
   have hbw := HB0.out.trans (hbd.mono HB0.out.size)
   replace hz0 := Nat.lt_of_lt_of_le hz0 hbd.size
   replace hz1 := Nat.lt_of_lt_of_le hz1 hbd.size
   replace hz2 := Nat.lt_of_lt_of_le hz2 hbd.size
   clear hbd c00 c01 c10 c11 f00 f01 f10 f11 hw1
   obtain ⟨q00, q01, -, -⟩ := num_cells ga
   obtain ⟨-, q11, -, -⟩ := num_cells gb
   have HGR := Lib.hid gr
   have HBW := Lib.hid hbw
   have HCA := Lib.hid (HMN.out Wa.drew _ _ hna.drew hnc.drew)
   clear ga gb gr hna hnc hbw
   go_wp2_with fail
   refine wp_region_line (fun w' => w'.cell? ⟨w.heap.size, 0, none⟩ = some (.bool an) ∧ w'.cell? ⟨w.heap.size, 1, none⟩ = some (.slice aa p ca) ∧ w'.cell? ⟨w.heap.size + 1, 1, none⟩ = some (.slice ab q cb)) 9 (by kernel_rfl) ⟨q00, q01, q11⟩ (fun hHeld => ?_)
   refine tkT 0 (v := ?_) rfl rfl ?_ ?_
   rotate_left
   ·(intro wq hSq; (try dsimp only at hSq); go_simp; try with_reducible rfl)
   try simp only [Act.put, List.setIfInBounds_toArray, List.set_cons_zero, List.set_cons_succ]
   refine tkT 1 (v := ?_) rfl rfl ?_ ?_
   rotate_left
   ·(intro wq hSq; (try dsimp only at hSq); go_simp; try with_reducible rfl)
   try simp only [Act.put, List.setIfInBounds_toArray, List.set_cons_zero, List.set_cons_succ]
   refine tkT 2 (v := ?_) rfl rfl ?_ ?_
   rotate_left
   ·(intro wq hSq; (try dsimp only at hSq); go_simp; try with_reducible rfl)
   try simp only [Act.put, List.setIfInBounds_toArray, List.set_cons_zero, List.set_cons_succ]
   refine tkT 3 (v := ?_) rfl rfl ?_ ?_
   rotate_left
   ·(intro wq hSq; (try dsimp only at hSq); go_simp; try with_reducible rfl)
   try simp only [Act.put, List.setIfInBounds_toArray, List.set_cons_zero, List.set_cons_succ]
   refine tkT 4 (v := ?_) rfl rfl ?_ ?_
   rotate_left
   ·(intro wq hSq; (try dsimp only at hSq); go_simp; try with_reducible rfl)
   try simp only [Act.put, List.setIfInBounds_toArray, List.set_cons_zero, List.set_cons_succ]
   refine tkT 5 (v := ?_) rfl rfl ?_ ?_
   rotate_left
   ·(intro wq hSq; (try dsimp only at hSq); go_simp; try with_reducible rfl)
   try simp only [Act.put, List.setIfInBounds_toArray, List.set_cons_zero, List.set_cons_succ]
   refine wpAnyT_step 6 (by kernel_rfl) rfl (fun K hK => ?_)
   go_simp
   go_at_call 104
   (with_reducible refine (HCA.out).mono ?_)
   rintro e w5 ⟨v5, rfl, hn5, hb5⟩
   obtain ⟨a5, L5, c5, rfl⟩ : ∃ a5 L5 c5, v5 = .slice a5 L5 c5 := by obtain ⟨x, y, h⟩ := reads_len hn5; exact ⟨x, _, y, h⟩
   have hb05 : Below Wa.heap.size Wa w5 := ((Below.refl _ _).drew).trans hb5
   have k0 := (hb05.cell (p := ⟨w.heap.size, 0, none⟩) hz0).trans q00
   have k1 := (hb05.cell (p := ⟨w.heap.size, 1, none⟩) hz0).trans q01
   have k2 := (hb05.cell (p := ⟨w.heap.size + 1, 1, none⟩) hz1).trans q11
   have hg5 := (hb05.block _ hz2).trans HGR.out
   have hbw5 := HBW.out.trans (hb05.mono HBW.out.size)
   have hn5' := HRAW.out _ _ hn5
   refine hK.out _ _ ⟨k0, k1, k2⟩ (fun hHeld2 => ?_)
   have HB5 := Lib.hid hbw5
   have HN5 := Lib.hid hn5'
   have HG5 := Lib.hid hg5
   clear hb5 hn5 hb05 hg5 hbw5 hn5' hK K hHeld
   try simp only [Act.put, List.setIfInBounds_toArray, List.set_cons_zero, List.set_cons_succ]
   refine tkT 7 (v := ?_) rfl rfl ?_ ?_
   rotate_left
   ·(intro wq hSq; (try dsimp only at hSq); go_simp; try with_reducible rfl)
   try simp only [Act.put, List.setIfInBounds_toArray, List.set_cons_zero, List.set_cons_succ]
   refine wpAnyT_step 8 (by kernel_rfl) rfl (fun K hK => ?_)
   go_simp
   go_at_call 65
   (with_reducible refine (HTR.out _ _ HN5.out).mono ?_)
   rintro e w6 ⟨v6, rfl, hn6, hb6⟩
   obtain ⟨a6, L6, c6, rfl⟩ : ∃ a5 L5 c5, v6 = .slice a5 L5 c5 := by obtain ⟨x, y, h⟩ := reads_len hn6; exact ⟨x, _, y, h⟩
   have hz5 := HB5.out.size
   have i0 := (hb6.cell (p := ⟨w.heap.size, 0, none⟩) (lt_of_cell k0)).trans k0
   have i1 := (hb6.cell (p := ⟨w.heap.size, 1, none⟩) (lt_of_cell k1)).trans k1
   have i2 := (hb6.cell (p := ⟨w.heap.size + 1, 1, none⟩) (lt_of_cell k2)).trans k2
   have hg6 := (hb6.block _ (lt_of_heap HG5.out)).trans HG5.out
   have hbw6 := HB5.out.trans (hb6.mono HB5.out.size)
   refine hK.out _ _ ⟨i0, i1, i2⟩ (fun hHeld3 => ?_)
   have HB6 := Lib.hid hbw6
   have HN6 := Lib.hid hn6
   have HG6 := Lib.hid hg6
   obtain ⟨d0, d1, fz0, fz1⟩ := num_cells hg6
   clear hb6 hn6 hg6 hbw6 hz5 k0 k1 k2 hK K hHeld2
   try simp only [Act.put, List.setIfInBounds_toArray, List.set_cons_zero, List.set_cons_succ]
   refine wpAnyT_last (by kernel_rfl) (by kernel_rfl) rfl (fun K hK => ?_)
   go_simp
   refine hK.out _ _ ?_
   clear hK K hHeld3
   have m2 := num_set HG6.out (.bool S) (.slice a6 L6 c6)
   have hb9 : Below w.heap.size w ((w6.setCell ⟨w.heap.size + 1 + 1, 0, none⟩ (.bool S)).setCell ⟨w.heap.size + 1 + 1, 1, none⟩ (.slice a6 L6 c6)) := (HB6.out.setCell (by simp; omega) _).setCell (by simp; omega) _
   have hn9 := numH_set HN6.out HG6.out (.bool S) (.slice a6 L6 c6)
   obtain ⟨d20, d21, -, -⟩ := num_cells m2
   clear m2 d0 d1 fz0 fz1 i0 i1 i2
   generalize (w6.setCell ⟨w.heap.size + 1 + 1, 0, none⟩ (.bool S)).setCell ⟨w.heap.size + 1 + 1, 1, none⟩ (.slice a6 L6 c6) = W9 at d20 d21 hb9 hn9 ⊢
   have HB9 := Lib.hid hb9
   have HN9 := Lib.hid hn9
   clear hb9 hn9
   go_wp2
   rw [HP.out]
   exact bodyPost_ret (v := .agg #[.bool S, .slice a6 L6 c6]) (by simp [results, Tryz.results85, go_sem, d20, d21]) rfl ⟨.slice a6 L6 c6, rfl, HN9.out, HB9.out⟩
end
/- The reference's numbers with signs: the product. -/
section
open Go.RowKit Go.Shelf Go.WideNum
theorem list_dig {B : Nat} (hB : 0 < B) (t : List Nat) (L : Nat) (ht : t.length = L) (hl : ∀ x ∈ t, x < B) : t = (List.range L).map (dig B (valW B t)) := by
 apply List.ext_getElem
 ·simp [ht]
 ·intro i h1 h2
  rw [List.getElem_map, List.getElem_range, valW_dig hB t hl, List.getD_eq_getElem?_getD, List.getElem?_eq_getElem h1]
  rfl
theorem zrow_map (n : Nat) : zrow n = ((List.replicate n 0).map u32V).toArray := by simp [zrow, u32V]
theorem hmul_any (an : Bool) (A : Nat) (va : Value) (bn : Bool) (C : Nat) (vb : Value) (w : World) (hA : World.numH w va A) (hC : World.numH w vb C) (hla : (hw A).length ≤ 4000) (hlc : (hw C).length ≤ 4000) :
  Calls Tryz.prog 80 #[.agg #[.bool an, va], .agg #[.bool bn, vb]] w (SRet w ((an != bn) && decide (A * C ≠ 0)) (A * C)) := by
 obtain ⟨aa, p, ca, hp, rfl, hca, hma, hsa⟩ := numH_words hA
 obtain ⟨ab, q, cb, hq, rfl, hcb, hmb, hsb⟩ := numH_words hC
 clear hA hC
 have hva := hw_vlt A
 have hvc := hw_vlt C
 rw [← hp] at hla hva
 rw [← hq] at hlc hvc
 have HA := Lib.hid hsa
 have HC := Lib.hid hsb
 have HVA := Lib.hid hva
 have HVC := Lib.hid hvc
 obtain ⟨sg, hsg⟩ : ∃ sg, sg = (an != bn) := ⟨_, rfl⟩
 rw [← hsg]
 have HSG := Lib.hid hsg
 obtain ⟨S, hS⟩ : ∃ S, S = (sg && decide (A * C ≠ 0)) := ⟨_, rfl⟩
 rw [← hS]
 have HTR : Hid (∀ v W, World.rawH W v (A * C) (p + q) → Calls Tryz.prog 65 #[.agg #[.bool sg, v]] W (SRet W S (A * C))) := fun v W h => by
  rw [hS]
  exact htrim_any sg (A * C) _ (by rw [Nat.pow_add]; exact Nat.mul_lt_mul'' hva hvc) (by omega) v W h
 obtain ⟨HPOST, hpost⟩ : ∃ R, R = SRet w S (A * C) := ⟨_, rfl⟩
 rw [← hpost]
 have HP := Lib.hid hpost
 have hmk : ∀ W : World, (Instr.makeSlice 23 (.int .i64 ((p : Int) + (q : Int))) (.int .i64 ((p : Int) + (q : Int)))).run Tryz.prog W = .ok (.slice (some ⟨W.heap.size, 0, none⟩) (p + q) (p + q)) (W.alloc (.cells (zrow (p + q)) 22)) := fun W => make_u32 (p + q) (by omega) W
 clear hp hq hsa hsb hva hvc hpost hS hsg hma hmb
 obtain ⟨W0, hW0⟩ : ∃ W0, W0 = ((w.alloc (.cells #[.bool an, .slice aa p ca] 72)).alloc (.cells #[.bool bn, .slice ab q cb] 72)).alloc (.cells #[.bool false, .slice none 0 0] 72) := ⟨_, rfl⟩
 have g0 : W0.heap[w.heap.size]? = some (.cells #[.bool an, .slice aa p ca] 72) := by rw [hW0, Below.heap_alloc _ _ _ (by simp; omega), Below.heap_alloc _ _ _ (by simp)]; exact heap_alloc_new w _
 have g1 : W0.heap[w.heap.size + 1]? = some (.cells #[.bool bn, .slice ab q cb] 72) := by rw [hW0, Below.heap_alloc _ _ _ (by simp)]; exact alloc_last _ _ (by simp)
 have g2 : W0.heap[w.heap.size + 1 + 1]? = some (.cells #[.bool false, .slice none 0 0] 72) := by rw [hW0]; exact alloc_last _ _ (by simp)
 have hb0 : Below w.heap.size w W0 := by rw [hW0]; exact ((((Below.refl _ w).alloc (Nat.le_refl _) _).alloc (by simp) _).alloc (by simp; omega) _)
 have HB0 := Lib.hid hb0
 have HG0 := Lib.hid g0
 have HG1 := Lib.hid g1
 have HG2 := Lib.hid g2
 obtain ⟨c00, c01, f00, f01⟩ := num_cells g0
 obtain ⟨c10, c11, f10, f11⟩ := num_cells g1
 have HW0 := Lib.hid hW0
 have hz0 : w.heap.size < W0.heap.size := lt_of_heap HG0.out
 have hz1 : w.heap.size + 1 < W0.heap.size := lt_of_heap HG1.out
 have hz2 : w.heap.size + 1 + 1 < W0.heap.size := lt_of_heap HG2.out
 clear hb0 g0 g1 g2 hW0
 go_enter Tryz.func80, Tryz.ntmps80
 go_upto_region 1 with (fail)
 rw [← HW0.out]
 go_wp2_with fail
 go_loopw [6] (fun iv wr => ∃ (i : Nat) (t : List Nat), i ≤ p ∧ iv = .int .i64 (i : Int) ∧ MulSt 65536 A C i 0 0 t q (p + q) ∧ wr.heap[W0.heap.size]? = some (.cells (t.map u32V).toArray 22) ∧ Below W0.heap.size W0 wr) (fun iv _ => p - (intOf iv).toNat)
 case atStart => exact ⟨0, List.replicate (p + q) 0, Nat.zero_le _, rfl, MulSt.start (by omega) rfl, by rw [← zrow_map]; exact heap_alloc_new W0 _, (Below.refl _ W0).alloc (Nat.le_refl _) _⟩
 case round =>
  obtain ⟨i, t, hi, rfl, hM, hg, hb⟩ := hrel
  have hz3 := lt_of_heap hg
  clear c00 c01 c10 c11 f00 f01 f10 f11 hmk
  by_cases hlt : i < p
  ·obtain ⟨b, off, rfl, hbl, hx0⟩ := HA.out i hlt
   obtain ⟨wo, hwo⟩ : ∃ x, x = wr := ⟨_, rfl⟩
   rw [← hwo] at hg hb ⊢
   clear hwo
   obtain ⟨c00, c01, f00, f01⟩ := num_cells ((hb.block _ hz0).trans HG0.out)
   have HM := Lib.hid hM
   have HG := Lib.hid hg
   have HB := Lib.hid hb
   clear hM hg hb
   go_wp2_with fail
   clear c00 c01 f00 f01
   go_loopw [7, 8] (fun cv kv wr => ∃ (k c : Nat) (t : List Nat), k ≤ q ∧ kv = .int .i64 (k : Int) ∧ cv = .int .u32 (c : Int) ∧ MulSt 65536 A C i k c t q (p + q) ∧ wr.heap[W0.heap.size]? = some (.cells (t.map u32V).toArray 22) ∧ Below W0.heap.size W0 wr) (fun _ kv _ => q - (intOf kv).toNat)
   case atStart => exact ⟨0, 0, t, Nat.zero_le _, rfl, rfl, HM.out, HG.out, HB.out⟩
   case round =>
    obtain ⟨k, c, t2, hk, rfl, rfl, hM, hg, hb⟩ := hrel
    obtain ⟨c00, c01, f00, f01⟩ := num_cells ((hb.block _ hz0).trans HG0.out)
    obtain ⟨c10, c11, f10, f11⟩ := num_cells ((hb.block _ hz1).trans HG1.out)
    by_cases hkt : k < q
    ·obtain ⟨b2, off2, rfl, hbl2, hy0⟩ := HC.out k hkt
     have hx := (hb.cell (p := ⟨b, off + i, none⟩) (show b < W0.heap.size by omega)).trans ((HB0.out.cell (p := ⟨b, off + i, none⟩) hbl).trans hx0)
     have hy := (hb.cell (p := ⟨b2, off2 + k, none⟩) (show b2 < W0.heap.size by omega)).trans ((HB0.out.cell (p := ⟨b2, off2 + k, none⟩) hbl2).trans hy0)
     obtain ⟨hs, hM2⟩ := hM.step (by omega) hkt (by omega)
     obtain ⟨hcu, hfu⟩ := arr_cell hg (i + k) (by rw [hM.len]; omega)
     have hxd := hw_dig A i
     have hyd := hw_dig C k
     have hvd := getD_lt (B := 65536) (by omega) hM.low (i + k)
     have hcd := hM.clt
     obtain ⟨x, ex⟩ : ∃ x, x = dig 65536 A i := ⟨_, rfl⟩
     obtain ⟨y, ey⟩ : ∃ x, x = dig 65536 C k := ⟨_, rfl⟩
     obtain ⟨v, ev⟩ : ∃ x, x = t2.getD (i + k) 0 := ⟨_, rfl⟩
     rw [← ex] at hx hs hM2 hxd
     rw [← ey] at hy hs hM2 hyd
     rw [← ev] at hcu hs hM2 hvd
     obtain ⟨m, em⟩ : ∃ m, m = x * y := ⟨_, rfl⟩
     rw [← em] at hs hM2
     obtain ⟨n1, en⟩ : ∃ n, n = c + v := ⟨_, rfl⟩
     obtain ⟨s, es⟩ : ∃ n, n = n1 + m := ⟨_, rfl⟩
     rw [show c + (v + m) = s by omega] at hs hM2
     have w1 : IntKind.u32.wrap ((x : Int) * (y : Int)) = (m : Int) := by
      rw [← Int.natCast_mul, ← em, IntKind.wrap_u32]
      omega
     have w2 : IntKind.u32.wrap ((c : Int) + (v : Int)) = (n1 : Int) := by rw [IntKind.wrap_u32]; omega
     have w3 : IntKind.u32.wrap ((n1 : Int) + (m : Int)) = (s : Int) := by rw [IntKind.wrap_u32]; omega
     obtain ⟨j, ej⟩ : ∃ j, j = i + k := ⟨_, rfl⟩
     have w7 : IntKind.i64.wrap ((i : Int) + (k : Int)) = (j : Int) := by rw [ej]; exact IntWalk.i64_in _ (by omega)
     have w8 : (0 : Int) ≤ (j : Int) := by omega
     have w9 : (j : Int) < ((p + q : Nat) : Int) := by omega
     have w9' : (j : Int) < (p : Int) + (q : Int) := by omega
     have w10 : (i : Int) < (p : Int) := by omega
     have w11 : (k : Int) < (q : Int) := by omega
     have w12 : (i : Int) + (k : Int) = (j : Int) := by omega
     have w13 : IntKind.i64.wrap (j : Int) = (j : Int) := IntWalk.i64_in _ (by omega)
     rw [← ej] at hcu hfu hM2
     have HG2 := Lib.hid hg
     have HM2 := Lib.hid hM2
     clear hx0 hy0 ex ey ev em en es ej hg hM hM2
     go_wp2_with fail
     refine wp_region_heldL (fun w' => w'.cell? ⟨W0.heap.size, j, none⟩ = some (.int .u32 (v : Int)) ∧ w'.cell? ⟨w.heap.size, 1, none⟩ = some (.slice (some ⟨b, off, none⟩) p ca) ∧ w'.cell? ⟨w.heap.size + 1, 1, none⟩ = some (.slice (some ⟨b2, off2, none⟩) q cb) ∧ w'.cell? ⟨b, off + i, none⟩ = some (.int .u32 (x : Int)) ∧ w'.cell? ⟨b2, off2 + k, none⟩ = some (.int .u32 (y : Int))) (by kernel_rfl) ⟨hcu, c01, c11, hx, hy⟩ (fun hS => ?_)
     refine tkH 0 (v := ?_) rfl ?_ ?_
     rotate_left
     ·(intro wq hSq; (try dsimp only at hSq); go_simp; try with_reducible rfl)
     try simp only [Act.put, List.setIfInBounds_toArray, List.set_cons_zero, List.set_cons_succ]
     refine tkH 1 (v := ?_) rfl ?_ ?_
     rotate_left
     ·(intro wq hSq; (try dsimp only at hSq); go_simp; try with_reducible rfl)
     try simp only [Act.put, List.setIfInBounds_toArray, List.set_cons_zero, List.set_cons_succ]
     refine tkH 2 (v := ?_) rfl ?_ ?_
     rotate_left
     ·(intro wq hSq; (try dsimp only at hSq); go_simp; try with_reducible rfl)
     try simp only [Act.put, List.setIfInBounds_toArray, List.set_cons_zero, List.set_cons_succ]
     refine tkH 3 (v := ?_) rfl ?_ ?_
     rotate_left
     ·(intro wq hSq; (try dsimp only at hSq); go_simp; try with_reducible rfl)
     try simp only [Act.put, List.setIfInBounds_toArray, List.set_cons_zero, List.set_cons_succ]
     refine tkH 4 (v := ?_) rfl ?_ ?_
     rotate_left
     ·(intro wq hSq; (try dsimp only at hSq); go_simp; try with_reducible rfl)
     try simp only [Act.put, List.setIfInBounds_toArray, List.set_cons_zero, List.set_cons_succ]
     refine tkH 5 (v := ?_) rfl ?_ ?_
     rotate_left
     ·(intro wq hSq; (try dsimp only at hSq); go_simp; try with_reducible rfl)
     try simp only [Act.put, List.setIfInBounds_toArray, List.set_cons_zero, List.set_cons_succ]
     refine tkH 6 (v := ?_) rfl ?_ ?_
     rotate_left
     ·(intro wq hSq; (try dsimp only at hSq); go_simp; try with_reducible rfl)
     try simp only [Act.put, List.setIfInBounds_toArray, List.set_cons_zero, List.set_cons_succ]
     refine tkH 7 (v := ?_) rfl ?_ ?_
     rotate_left
     ·(intro wq hSq; (try dsimp only at hSq); go_simp; try with_reducible rfl)
     try simp only [Act.put, List.setIfInBounds_toArray, List.set_cons_zero, List.set_cons_succ]
     refine tkH 8 (v := ?_) rfl ?_ ?_
     rotate_left
     ·(intro wq hSq; (try dsimp only at hSq); go_simp; try with_reducible rfl)
     try simp only [Act.put, List.setIfInBounds_toArray, List.set_cons_zero, List.set_cons_succ]
     refine tkH 9 (v := ?_) rfl ?_ ?_
     rotate_left
     ·(intro wq hSq; (try dsimp only at hSq); go_simp; try with_reducible rfl)
     try simp only [Act.put, List.setIfInBounds_toArray, List.set_cons_zero, List.set_cons_succ]
     refine tkH 10 (v := ?_) rfl ?_ ?_
     rotate_left
     ·(intro wq hSq; (try dsimp only at hSq); go_simp; try with_reducible rfl)
     try simp only [Act.put, List.setIfInBounds_toArray, List.set_cons_zero, List.set_cons_succ]
     refine tkH 11 (v := ?_) rfl ?_ ?_
     rotate_left
     ·(intro wq hSq; (try dsimp only at hSq); go_simp; try with_reducible rfl)
     try simp only [Act.put, List.setIfInBounds_toArray, List.set_cons_zero, List.set_cons_succ]
     refine tkH 12 (v := ?_) rfl ?_ ?_
     rotate_left
     ·(intro wq hSq; (try dsimp only at hSq); go_simp; try with_reducible rfl)
     try simp only [Act.put, List.setIfInBounds_toArray, List.set_cons_zero, List.set_cons_succ]
     refine tkH 13 (v := ?_) rfl ?_ ?_
     rotate_left
     ·(intro wq hSq; (try dsimp only at hSq); go_simp; try with_reducible rfl)
     try simp only [Act.put, List.setIfInBounds_toArray, List.set_cons_zero, List.set_cons_succ]
     refine tkH 14 (v := ?_) rfl ?_ ?_
     rotate_left
     ·(intro wq hSq; (try dsimp only at hSq); go_simp; try with_reducible rfl)
     try simp only [Act.put, List.setIfInBounds_toArray, List.set_cons_zero, List.set_cons_succ]
     refine tkH 15 (v := ?_) rfl ?_ ?_
     rotate_left
     ·(intro wq hSq; (try dsimp only at hSq); go_simp; try with_reducible rfl)
     try simp only [Act.put, List.setIfInBounds_toArray, List.set_cons_zero, List.set_cons_succ]
     refine tkH 16 (v := ?_) rfl ?_ ?_
     rotate_left
     ·(intro wq hSq; (try dsimp only at hSq); go_simp; try with_reducible rfl)
     try simp only [Act.put, List.setIfInBounds_toArray, List.set_cons_zero, List.set_cons_succ]
     refine tkH 17 (v := ?_) rfl ?_ ?_
     rotate_left
     ·(intro wq hSq; (try dsimp only at hSq); go_simp; try with_reducible rfl)
     try simp only [Act.put, List.setIfInBounds_toArray, List.set_cons_zero, List.set_cons_succ]
     refine tkH 18 (v := ?_) rfl ?_ ?_
     rotate_left
     ·(intro wq hSq; (try dsimp only at hSq); go_simp; try with_reducible rfl)
     try simp only [Act.put, List.setIfInBounds_toArray, List.set_cons_zero, List.set_cons_succ]
     refine tkH 19 (v := ?_) rfl ?_ ?_
     rotate_left
     ·(intro wq hSq; (try dsimp only at hSq); go_simp; try with_reducible rfl)
     try simp only [Act.put, List.setIfInBounds_toArray, List.set_cons_zero, List.set_cons_succ]
     refine tkH 20 (v := ?_) rfl ?_ ?_
     rotate_left
     ·(intro wq hSq; (try dsimp only at hSq); go_simp; try with_reducible rfl)
     try simp only [Act.put, List.setIfInBounds_toArray, List.set_cons_zero, List.set_cons_succ]
     refine wpAnyH_end (by kernel_rfl) ?_
     go_wp2_with fail
     go_roundw
     case rel =>
      refine ⟨k + 1, s / 65536, t2.set j (s % 65536), by omega, by go_num, by simp, HM2.out, ?_, (hb.setCell (by simp) _).drew⟩
      rw [show ((s : Int) % 65536) = ((s % 65536 : Nat) : Int) by omega]
      exact arr_set HG2.out _
     case measure => simp [intOf]; omega
    ·obtain rfl : k = q := by omega
     obtain ⟨hcu, hfu⟩ := arr_cell hg (i + k) (by rw [hM.len]; omega)
     have hcd := hM.clt
     have HM2 := Lib.hid (hM.row (by omega) (by omega) HVC.out)
     have HG2 := Lib.hid hg
     clear hM hg
     go_wp2_with fail
     go_roundw
     case rel => exact ⟨i + 1, t2.set (i + k) c, by omega, by go_num, HM2.out, arr_set HG2.out _, hb.setCell (by simp) _⟩
     case measure => simp [intOf]; omega
  ·obtain rfl : i = p := by omega
   obtain ⟨c00, c01, f00, f01⟩ := num_cells ((hb.block _ hz0).trans HG0.out)
   obtain ⟨c10, c11, f10, f11⟩ := num_cells ((hb.block _ hz1).trans HG1.out)
   have hraw : World.rawH wr (.slice (some ⟨W0.heap.size, 0, none⟩) (i + q) (i + q)) (A * C) (i + q) := by
    have hd := hM.done HVA.out
    rw [List.take_of_length_le (by rw [hM.len]; exact Nat.le_refl _)] at hd
    have hl := list_dig (B := 65536) (by omega) t (i + q) hM.len hM.low
    rw [hd] at hl
    show World.reads _ _ _ _
    rw [← hl]
    have := reads_block (B := wr.heap.size) (l := t.map u32V) hg hz3 (i + q) (by simp [hM.len]) (by unfold maxLen; omega)
    rw [List.length_map, hM.len] at this
    exact this
   have HR := Lib.hid hraw
   have HGR := Lib.hid ((hb.block _ hz2).trans HG2.out)
   have HBW := Lib.hid (HB0.out.trans (hb.mono HB0.out.size))
   have t1 : (!(an == bn)) = sg := by rw [HSG.out]; rfl
   have t2 : (an != bn) = sg := HSG.out.symm
   clear hM hg hb hraw
   go_wp2_with fail
   (with_reducible refine (HTR.out _ _ HR.out).mono ?_)
   rintro e w6 ⟨v6, rfl, hn6, hb6⟩
   obtain ⟨a6, L6, c6, rfl⟩ : ∃ a5 L5 c5, v6 = .slice a5 L5 c5 := by obtain ⟨x, y, h⟩ := reads_len hn6; exact ⟨x, _, y, h⟩
   have hg6 := (hb6.block _ (lt_of_heap HGR.out)).trans HGR.out
   have HB6 := Lib.hid (HBW.out.trans (hb6.mono HBW.out.size))
   have HN6 := Lib.hid hn6
   have HG6 := Lib.hid hg6
   clear c00 c01 f00 f01 c10 c11 f10 f11
   obtain ⟨d0, d1, fz0, fz1⟩ := num_cells hg6
   clear hb6 hn6 hg6
   go_wp2
   have m2 := num_set HG6.out (.bool S) (.slice a6 L6 c6)
   have hb9 : Below w.heap.size w ((w6.setCell ⟨w.heap.size + 1 + 1, 0, none⟩ (.bool S)).setCell ⟨w.heap.size + 1 + 1, 1, none⟩ (.slice a6 L6 c6)) := (HB6.out.setCell (by simp; omega) _).setCell (by simp; omega) _
   have hn9 := numH_set HN6.out HG6.out (.bool S) (.slice a6 L6 c6)
   obtain ⟨d20, d21, -, -⟩ := num_cells m2
   clear m2 d0 d1 fz0 fz1
   generalize (w6.setCell ⟨w.heap.size + 1 + 1, 0, none⟩ (.bool S)).setCell ⟨w.heap.size + 1 + 1, 1, none⟩ (.slice a6 L6 c6) = W9 at d20 d21 hb9 hn9 ⊢
   rw [HP.out]
   exact bodyPost_ret (v := .agg #[.bool S, .slice a6 L6 c6]) (by simp [results, Tryz.results80, go_sem, d20, d21]) rfl ⟨.slice a6 L6 c6, rfl, hn9, hb9⟩
end
/- The reference: helpers of its exported functions. -/
end Go.Proofs.YtkjlfjnncdkmlaaGreat
namespace Go
section
variable {P : Program} {ops : Array Oper} {Q : Exit → Act → World → Prop} {S : World → Prop} {late : Nat → Bool}
theorem wpAnyD_keep (i : Nat) {o : Oper} {fuel : Nat} {listed : Array Bool} {a : Act} {w : World} (hr : Region.ready .any ops listed = [i]) (ho : ops.toList[i]? = some o)
  (h : ∀ K' : Act → World → Prop, Shut (∀ a w, S w → (S w → wpAnyD P ops Q S late fuel (listed.setIfInBounds i true) a w) → K' a w) → if Region.wanted o (yielded ops a.tmps) = true then Oper.wp P o a w K' Q else K' (a.put o.dst undef) w) :
  wpAnyD P ops Q S late (fuel + 1) listed a w := by
 refine ⟨fun h0 => (by rw [hr] at h0; cases h0), fun j hj => ?_⟩
 rw [hr] at hj
 obtain rfl : j = i := by simpa using hj
 exact wpOp_step (by simpa using ho) (fun K' hK => h K' (fun a w hS hW => hK a w ⟨fun _ _ => hS, hW hS⟩))
end
end Go
namespace Go.Proofs.YtkjlfjnncdkmlaaGreat
section
open Go.RowKit Go.Shelf Go.WideNum
theorem zOf_and (s : Bool) (n : Nat) : zOf (s && decide (n ≠ 0)) n = zOf s n := by
 by_cases h : n = 0
 ·subst h; cases s <;> simp [zOf]
 ·simp [h]
theorem hout_num (s : Bool) (n : Nat) (hl : (hw n).length ≤ 10000) (fb : Bool) (ft : ByteArray) (E : Int) (h1 : outZ (zOf s n) = .agg #[.bool fb, .string ft]) (h2 : errZ (zOf s n) = E) (v : Value) (w : World) (h : World.numH w v n) :
  Calls Tryz.prog 37 #[.agg #[.bool s, v]] w fun e w' => e = .returned (.tuple #[.agg #[.bool fb, .string ft], .int .i64 E]) ∧ Below w.heap.size w w' := by
 have := hout_any s n _ (hw_vlt n) hl v w (numH_raw h)
 unfold FormRet at this
 rw [outB_z, outE_z s, h1, h2] at this
 exact this
theorem refValid_wide (neg : Bool) (s : ByteArray) (hs : s.size ≤ maxLen) (ok : Bool) (hok : ok = validB neg s) (w : World) :
  Calls Tryz.prog 62 #[.agg #[.bool neg, .string s]] w fun e w' => e = .returned (.bool ok) ∧ Below w.heap.size w w' := by subst hok; exact refValid_any neg s hs w
theorem hw_len129 {n : Nat} (h : n < lim) : (hw n).length ≤ 129 := by
 have h1 := hw_halves n
 have h2 := (lim_iff n _ rfl).1 h
 omega
theorem hw_len_mul {A C : Nat} {a c : Nat} (ha : (hw A).length ≤ a) (hc : (hw C).length ≤ c) : (hw (A * C)).length ≤ a + c := hw_len_le (by
 rw [Nat.pow_add]
 exact Nat.mul_lt_mul'' (Nat.lt_of_lt_of_le (hw_vlt A) (Nat.pow_le_pow_right (by omega) ha)) (Nat.lt_of_lt_of_le (hw_vlt C) (Nat.pow_le_pow_right (by omega) hc)))
theorem hw_len_mono {A C k : Nat} (h : A ≤ C) (hc : (hw C).length ≤ k) : (hw A).length ≤ k := hw_len_le (Nat.lt_of_le_of_lt h (Nat.lt_of_lt_of_le (hw_vlt C) (Nat.pow_le_pow_right (by omega) hc)))
theorem hw_len_sum {A C n : Nat} (ha : (hw A).length ≤ 2000) (hc : (hw C).length ≤ 2000) (h : n ≤ A + C) : (hw n).length ≤ 4001 :=
 hw_len_mono h (hw_len_add (Nat.le_trans ha (by omega)) (Nat.le_trans hc (by omega)))
theorem wide_hold {w w' W : World} {g : Nat} {b : Bool} {s : ByteArray} (h : W.heap[g]? = some (.cells #[.bool b, .string s] 40)) (hb : Below W.heap.size W w') : w'.heap[g]? = some (.cells #[.bool b, .string s] 40) := (hb.block _ (lt_of_heap h)).trans h
end
/- Walks: the integer of 64 bits of a form: the program's. -/
section
open Go.RowKit Go.Shelf Go.WideNum
theorem zeros_app (n : Nat) : (wd n).map u32V ++ [.int .u32 0, .int .u32 0] = ((List.range ((wd n).length + 2)).map (dig 4294967296 n)).map u32V := by
 rw [show (wd n).length + 2 = (wd n).length + 1 + 1 by omega, List.range_succ, List.range_succ]
 simp only [List.map_append, List.map_cons, List.map_nil]
 rw [wd_high n _ (Nat.le_refl _), wd_high n _ (Nat.le_succ _)]
 have h : (List.range (wd n).length).map (dig 4294967296 n) = wd n := by
  apply List.ext_getElem?
  intro i
  rcases Nat.lt_or_ge i (wd n).length with h | h
  ·rw [wd_get n i h]; simp [h]
  ·rw [List.getElem?_eq_none (by simpa using h), List.getElem?_eq_none h]
 rw [h]
 simp [u32V]
end
/- Plain: long division by words: the numbers of a round; the rows in memory. -/
section
open Go.RowKit Go.Shelf Go.WideNum
theorem top_two {B X k : Nat} (hB : 0 < B) (h : X < B ^ (k + 2)) : X / B ^ k = dig B X (k + 1) * B + dig B X k := by
 have hp : 0 < B ^ k := Nat.pow_pos hB
 unfold dig
 have h1 : X / B ^ k < B * B := (Nat.div_lt_iff_lt_mul hp).2 (by rw [Nat.pow_succ, Nat.pow_succ] at h; rw [Nat.mul_assoc, Nat.mul_comm] at h; exact h)
 rw [Nat.pow_succ, ← Nat.div_div_eq_div_mul]
 obtain ⟨Y, hY⟩ : ∃ Y, Y = X / B ^ k := ⟨_, rfl⟩
 rw [← hY] at h1 ⊢
 have h2 : Y / B < B := (Nat.div_lt_iff_lt_mul hB).2 h1
 rw [Nat.mod_eq_of_lt h2]
 have := Nat.mod_add_div Y B
 rw [Nat.mul_comm] at this
 omega
theorem wd_len_le2 {A C k : Nat} (h : A ≤ C) (hc : (wd C).length ≤ k) : (wd A).length ≤ k := by
 have h1 := words_length (B := 4294967296) (by omega) A (wd C).length (Nat.lt_of_le_of_lt h (wd_vlt C))
 unfold wd at *; omega
theorem norm_facts (A C s n p : Nat) (hn : n = (wd C).length) (hp : p = (wd A).length) (hAC : C ≤ A) (hn2 : 2 ≤ n) (hs : s < 32) (htop : dig 4294967296 C (n - 1) < 2 ^ (32 - s)) :
  (wd (C * 2 ^ s)).length = n ∧ A * 2 ^ s < C * 2 ^ s * 4294967296 ^ (p + 1 - n) ∧ A * 2 ^ s < 4294967296 ^ (p + 1) ∧ (wd (A * 2 ^ s)).length ≤ p + 1 ∧ n ≤ p ∧ C * 2 ^ s < 4294967296 ^ n ∧ 4294967296 ^ (n - 1) ≤ C * 2 ^ s ∧ 0 < C := by
 have hp2 : 0 < 2 ^ s := Nat.pow_pos (by omega)
 have hCl := wd_vlt C
 have hAl := wd_vlt A
 rw [← hn] at hCl
 rw [← hp] at hAl
 have hClo : 4294967296 ^ (n - 1) ≤ C := by
  rcases Nat.lt_or_ge C (4294967296 ^ (n - 1)) with h | h
  ·have := words_length (B := 4294967296) (by omega) C (n - 1) h
   unfold wd at hn
   omega
  ·exact h
 have hC0 : 0 < C := Nat.lt_of_lt_of_le (Nat.pow_pos (by omega)) hClo
 have hnp : n ≤ p := by
  rcases Nat.lt_or_ge p n with h | h
  ·exfalso
   have h1 : 4294967296 ^ p ≤ 4294967296 ^ (n - 1) := Nat.pow_le_pow_right (by omega) (by omega)
   omega
  ·exact h
 have hpn : 0 < 4294967296 ^ (n - 1) := Nat.pow_pos (by omega)
 have hsplit : 4294967296 ^ n = 4294967296 ^ (n - 1) * 4294967296 := by rw [← Nat.pow_succ]; congr 1; omega
 have hVl : C * 2 ^ s < 4294967296 ^ n := by
  have h1 : dig 4294967296 C (n - 1) = C / 4294967296 ^ (n - 1) := by
   unfold dig
   refine Nat.mod_eq_of_lt ((Nat.div_lt_iff_lt_mul hpn).2 ?_)
   rw [Nat.mul_comm, ← hsplit]; exact hCl
  rw [h1] at htop
  obtain ⟨t, ht⟩ : ∃ t, t = C / 4294967296 ^ (n - 1) := ⟨_, rfl⟩
  rw [← ht] at htop
  have h2 : C < (t + 1) * 4294967296 ^ (n - 1) := by
   have h3 := Nat.mod_add_div C (4294967296 ^ (n - 1))
   have h4 := Nat.mod_lt C hpn
   rw [← ht, Nat.mul_comm] at h3
   rw [Nat.add_mul, Nat.one_mul]
   omega
  have h3 : (t + 1) * 4294967296 ^ (n - 1) * 2 ^ s ≤ 2 ^ (32 - s) * 4294967296 ^ (n - 1) * 2 ^ s := Nat.mul_le_mul_right _ (Nat.mul_le_mul_right _ htop)
  have h4 : 2 ^ (32 - s) * 4294967296 ^ (n - 1) * 2 ^ s = 4294967296 ^ n := by
   rw [hsplit, Nat.mul_right_comm, ← Nat.pow_add, show 32 - s + s = 32 by omega, Nat.mul_comm]
  have h5 : C * 2 ^ s < (t + 1) * 4294967296 ^ (n - 1) * 2 ^ s := (Nat.mul_lt_mul_right hp2).2 h2
  omega
 have hVlo : 4294967296 ^ (n - 1) ≤ C * 2 ^ s := Nat.le_trans hClo (Nat.le_mul_of_pos_right _ hp2)
 have h2s : 2 ^ s < 4294967296 := by rw [show (4294967296 : Nat) = 2 ^ 32 by rfl]; exact Nat.pow_lt_pow_right (by omega) hs
 have hA2 : A * 2 ^ s < 4294967296 ^ (p + 1) := by rw [Nat.pow_succ]; exact Nat.mul_lt_mul'' hAl h2s
 refine ⟨?_, ?_, hA2, words_length (by omega) _ _ hA2, hnp, hVl, hVlo, hC0⟩
 ·have h1 := words_length (B := 4294967296) (by omega) _ _ hVl
  have h2 := words_lenlt (B := 4294967296) (by omega) _ _ hVlo
  unfold wd
  omega
 ·have h1 : 4294967296 ^ p = 4294967296 ^ (n - 1) * 4294967296 ^ (p + 1 - n) := by rw [← Nat.pow_add]; congr 1; omega
  have h2 : 4294967296 ^ (n - 1) * 4294967296 ^ (p + 1 - n) ≤ C * 4294967296 ^ (p + 1 - n) := Nat.mul_le_mul_right _ hClo
  rw [Nat.mul_right_comm]
  exact (Nat.mul_lt_mul_right hp2).2 (by omega)
structure Rnd (V X k j v1 v2 top u2 q : Nat) : Prop where
 hV0 : 0 < V
 low : v1 * 4294967296 ^ (k + 1) ≤ V
 pos : 0 < v1
 v1B : v1 < 4294967296
 v2B : v2 < 4294967296
 hV : V / 4294967296 ^ k = v1 * 4294967296 + v2
 hU : X / 4294967296 ^ j / 4294967296 ^ k = top * 4294967296 + u2
 htop : top = X / 4294967296 ^ j / 4294967296 ^ (k + 1)
 topB : top < (v1 + 1) * 4294967296
 top64 : top < 18446744073709551616
 u2B : u2 < 4294967296
 hq : q = X / 4294967296 ^ j / V
 qB : q < 4294967296
theorem rnd_of (V X k j : Nat) (hVl : V < 4294967296 ^ (k + 2)) (hVlo : 4294967296 ^ (k + 1) ≤ V) (hX : X < V * 4294967296 ^ (j + 1)) :
  Rnd V X k j (dig 4294967296 V (k + 1)) (dig 4294967296 V k) (dig 4294967296 X (j + (k + 2)) * 4294967296 + dig 4294967296 X (j + (k + 1))) (dig 4294967296 X (j + k)) (X / 4294967296 ^ j / V) := by
 have hB : 0 < 4294967296 := by omega
 have hV0 : 0 < V := Nat.lt_of_lt_of_le (Nat.pow_pos hB) hVlo
 have hj : 0 < 4294967296 ^ j := Nat.pow_pos hB
 have hk : 0 < 4294967296 ^ k := Nat.pow_pos hB
 have hk1 : 0 < 4294967296 ^ (k + 1) := Nat.pow_pos hB
 have hd1 : dig 4294967296 V (k + 1) = V / 4294967296 ^ (k + 1) := by
  unfold dig
  refine Nat.mod_eq_of_lt ((Nat.div_lt_iff_lt_mul hk1).2 ?_)
  rw [Nat.mul_comm, ← Nat.pow_succ]; exact hVl
 have hXl : X < 4294967296 ^ (j + k + 1 + 2) := by
  refine Nat.lt_of_lt_of_le hX ?_
  rw [show j + k + 1 + 2 = (k + 2) + (j + 1) by omega, Nat.pow_add 4294967296 (k + 2)]
  exact Nat.mul_le_mul_right _ (Nat.le_of_lt hVl)
 have hUV : X / 4294967296 ^ j < V * 4294967296 := (Nat.div_lt_iff_lt_mul hj).2 (by rw [Nat.mul_assoc, Nat.mul_comm 4294967296, ← Nat.pow_succ]; exact hX)
 have htop : dig 4294967296 X (j + (k + 2)) * 4294967296 + dig 4294967296 X (j + (k + 1)) = X / 4294967296 ^ j / 4294967296 ^ (k + 1) := by
  rw [Nat.div_div_eq_div_mul, ← Nat.pow_add, show j + (k + 2) = j + (k + 1) + 1 by omega]
  exact (top_two (k := j + (k + 1)) hB (by rw [show j + (k + 1) + 2 = j + k + 1 + 2 by omega]; exact hXl)).symm
 have hx1 := dig_lt hB X (j + (k + 2))
 have hx2 := dig_lt hB X (j + (k + 1))
 have hx3 := dig_lt hB X (j + k)
 have hv1 := dig_lt hB V (k + 1)
 have hv2 := dig_lt hB V k
 have hlow : dig 4294967296 V (k + 1) * 4294967296 ^ (k + 1) ≤ V := by rw [hd1]; exact Nat.div_mul_le_self _ _
 have hhigh : V < (dig 4294967296 V (k + 1) + 1) * 4294967296 ^ (k + 1) := by
  have h3 := Nat.mod_add_div V (4294967296 ^ (k + 1))
  have h4 := Nat.mod_lt V hk1
  rw [Nat.mul_comm] at h3
  rw [hd1, Nat.add_mul, Nat.one_mul]
  omega
 refine ⟨hV0, hlow, ?_, hv1, hv2, top_two hB hVl, ?_, htop, ?_, by omega, hx3, rfl, (Nat.div_lt_iff_lt_mul hV0).2 (by rw [Nat.mul_comm]; exact hUV)⟩
 ·rw [hd1]; exact Nat.div_pos hVlo hk1
 ·have h1 : X / 4294967296 ^ j / 4294967296 ^ k = X / 4294967296 ^ (j + k) := by rw [Nat.div_div_eq_div_mul, ← Nat.pow_add]
  have h2 : X / 4294967296 ^ (j + (k + 1)) = X / 4294967296 ^ (j + k) / 4294967296 := by rw [← Nat.add_assoc, Nat.pow_succ, Nat.div_div_eq_div_mul]
  rw [htop, Nat.div_div_eq_div_mul _ _ (4294967296 ^ (k + 1)), ← Nat.pow_add, h2, h1]
  unfold dig
  have := Nat.mod_add_div (X / 4294967296 ^ (j + k)) 4294967296
  rw [Nat.mul_comm] at this
  omega
 ·rw [htop]
  refine (Nat.div_lt_iff_lt_mul hk1).2 ?_
  have h5 : V * 4294967296 ≤ (dig 4294967296 V (k + 1) + 1) * 4294967296 ^ (k + 1) * 4294967296 := Nat.mul_le_mul_right _ (Nat.le_of_lt hhigh)
  rw [Nat.mul_right_comm] at h5
  omega
theorem Rnd.ge {V X k j v1 v2 top u2 q : Nat} (h : Rnd V X k j v1 v2 top u2 q) : q ≤ top / v1 := by
 rw [h.hq]
 exact guess_ge (B := 4294967296) h.low h.htop (by omega) h.pos
theorem Rnd.down {V X k j v1 v2 top u2 q g r : Nat} (h : Rnd V X k j v1 v2 top u2 q) (hg : g * v1 + r = top) (hq : q ≤ g) (ht : 4294967296 ≤ g ∨ r * 4294967296 + u2 < g * v2) : q < g := by
 rcases ht with ht | ht
 ·have := h.qB; omega
 ·have h1 := guess_gt (B := 4294967296) (V := V) (U := X / 4294967296 ^ j) (n := k) (g := g) (by omega) h.hV h.hU (by omega) (by rw [show top - g * v1 = r by omega]; exact ht)
  rw [h.hq]; exact h1
theorem Rnd.fin {V X k j v1 v2 top u2 q g r : Nat} (h : Rnd V X k j v1 v2 top u2 q) (hg : g * v1 + r = top) (hgB : g < 4294967296) (ht : ¬ r * 4294967296 + u2 < g * v2) : g ≤ q + 1 := by
 have h1 := guess_le (B := 4294967296) (V := V) (U := X / 4294967296 ^ j) (n := k) (g := g) (by omega) h.hV0 h.hV h.hU h.pos hgB (by omega) (by rw [show top - g * v1 = r by omega]; omega)
 rw [h.hq]; exact h1
theorem Rnd.fin2 {V X k j v1 v2 top u2 q g r : Nat} (h : Rnd V X k j v1 v2 top u2 q) (hg : g * v1 + r = top) (hr : 4294967296 ≤ r) : g < 4294967296 ∧ g ≤ q + 1 := by
 obtain ⟨h1, h2⟩ := guess_rest (B := 4294967296) (v1 := v1) (v2 := v2) (top := top) (u2 := u2) (g := g) h.pos h.v2B h.topB (by omega) (by omega)
 rw [show top - g * v1 = r by omega] at h2
 exact ⟨h1, h.fin hg h1 (by omega)⟩
def DSt (W2 w : World) (gU L cU gq m T : Nat) (f : Nat → Nat) : Prop :=
 w.owns W2.heap.size 22 1 (.slice (some ⟨gU, 0, none⟩) L cU) L (((List.range L).map (dig 4294967296 T)).map u32V) ∧
 w.heap[gq]? = some (.cells (rowF f m) 22) ∧ Below W2.heap.size W2 w ∧ gq ≠ gU ∧ W2.heap.size ≤ gq
theorem DSt.cell {W2 w : World} {gU L cU gq m T : Nat} {f : Nat → Nat} (h : DSt W2 w gU L cU gq m T f) (k : Nat) (hk : k < L) :
  w.cell? ⟨gU, k, none⟩ = some (.int .u32 (dig 4294967296 T k : Int)) ∧ w.frozen? ⟨gU, k, none⟩ = false :=
 ⟨h.1.cell k _ (by simp [u32V, hk]), owns_fz h.1 k hk⟩
theorem DSt.set {W2 w : World} {gU L cU gq m T : Nat} {f : Nat → Nat} (h : DSt W2 w gU L cU gq m T f) (k y : Nat) (hk : k < L) (hy : y < 4294967296) :
  DSt W2 (w.setCell ⟨gU, k, none⟩ (.int .u32 (y : Int))) gU L cU gq m (setDig 4294967296 T k y) f := by
 obtain ⟨h1, h2, h3, h4, h5⟩ := h
 have hlt := (h1.lt gU rfl).1
 refine ⟨?_, by rw [Below.heap_setCell _ _ _ _ h4]; exact h2, h3.setCell hlt _, h4, h5⟩
 have h6 := h1.setOwn k (.int .u32 (y : Int))
 have e : (((List.range L).map (dig 4294967296 T)).map u32V).set k (.int .u32 (y : Int)) = ((List.range L).map (dig 4294967296 (setDig 4294967296 T k y))).map u32V := by
  apply List.ext_getElem?
  intro i
  rcases Nat.lt_or_ge i L with hi | hi
  ·by_cases hik : k = i
   ·subst hik
    simp [hi, u32V, dig_setDig (show 0 < 4294967296 by omega) T k y hy]
   ·simp [hi, u32V, List.getElem?_set, hik, dig_setDig (show 0 < 4294967296 by omega) T k y hy, Ne.symm hik]
  ·rw [List.getElem?_eq_none (by simpa using hi), List.getElem?_eq_none (by simpa using hi)]
 rw [← e]; exact h6
theorem DSt.drewN {W2 w : World} {gU L cU gq m T : Nat} {f : Nat → Nat} (h : DSt W2 w gU L cU gq m T f) (n : Nat) : DSt W2 (w.drewN n) gU L cU gq m T f := ⟨h.1, h.2.1, below_drewN h.2.2.1 n, h.2.2.2⟩
theorem DSt.qcell {W2 w : World} {gU L cU gq m T : Nat} {f : Nat → Nat} (h : DSt W2 w gU L cU gq m T f) (k : Nat) (hk : k < m) :
  w.cell? ⟨gq, k, none⟩ = some (.int .u32 (f k : Int)) ∧ w.frozen? ⟨gq, k, none⟩ = false := rowF_cell h.2.1 k hk
theorem DSt.qset {W2 w : World} {gU L cU gq m T : Nat} {f f' : Nat → Nat} (h : DSt W2 w gU L cU gq m T f) (k : Nat) (hf : ∀ j, j < m → j ≠ k → f j = f' j) :
  DSt W2 (w.setCell ⟨gq, k, none⟩ (.int .u32 (f' k : Int))) gU L cU gq m T f' := by
 obtain ⟨h1, h2, h3, h4, h5⟩ := h
 exact ⟨h1.setCell_ne (by simp [Value.ownBlock]; exact Ne.symm h4) _, rowF_set h2 hf, h3.setCell h5 _, h4, h5⟩
end
/- Plain: long division by words: the words of a round, as the walk meets them. -/
section
open Go.RowKit Go.Shelf Go.WideNum
theorem and_lo32 (y : Nat) (hy : y < 18446744073709551616) : bits .and .u64 (y : Int) 4294967295 = ((y % 4294967296 : Nat) : Int) := by
 show IntKind.u64.wrap ((BitVec.ofInt 64 _ &&& BitVec.ofInt 64 _).toNat : Int) = _
 rw [BitVec.ofInt_natCast, show (4294967295 : Int) = ((4294967295 : Nat) : Int) by rfl, BitVec.ofInt_natCast, BitVec.toNat_and, BitVec.toNat_ofNat, BitVec.toNat_ofNat, Nat.mod_eq_of_lt (by omega), Nat.mod_eq_of_lt (by omega), show (4294967295 : Nat) = 2 ^ 32 - 1 by rfl, Nat.and_two_pow_sub_one_eq_mod, IntKind.wrap_u64]
 omega
theorem wrap_sub2' (x c y z d : Nat) (h : x + 4294967296 * d = y + c + z) (hd : d ≤ 1) (hz : z < 4294967296) :
  ∃ T : Int, IntKind.u64.wrap (IntKind.u64.wrap ((x : Int) - (c : Int)) - (y : Int)) = T ∧ T % 4294967296 = (z : Int) ∧ T / 9223372036854775808 = (d : Int) := by
 refine ⟨_, rfl, ?_, ?_⟩ <;> rw [IntKind.wrap_u64, IntKind.wrap_u64] <;> rcases (show d = 0 ∨ d = 1 by omega) with rfl | rfl <;> omega
theorem sub_words (g v c b x : Nat) (hg : g < 4294967296) (hv : v < 4294967296) (hc : c < 4294967296) (hb : b ≤ 1) (hx : x < 4294967296) :
  ∃ (M pw lo hi z d : Nat) (T : Int), g * v + c = hi * 4294967296 + lo ∧ hi < 4294967296 ∧ z < 4294967296 ∧ d ≤ 1 ∧ z + lo + b = x + d * 4294967296 ∧ M ≤ 18446744065119617025 ∧ pw = M + c ∧ lo < 4294967296 ∧
   IntKind.u64.wrap ((g : Int) * (v : Int)) = (M : Int) ∧ IntKind.u64.wrap ((M : Int) + (c : Int)) = (pw : Int) ∧ (pw : Int) / 4294967296 = (hi : Int) ∧ bits .and .u64 (pw : Int) 4294967295 = (lo : Int) ∧
   IntKind.u64.wrap (IntKind.u64.wrap ((x : Int) - (b : Int)) - (lo : Int)) = T ∧ T % 4294967296 = (z : Int) ∧ T / 9223372036854775808 = (d : Int) := by
 have h1 : g * v ≤ 4294967295 * 4294967295 := Nat.mul_le_mul (by omega) (by omega)
 obtain ⟨M, hM⟩ : ∃ M, M = g * v := ⟨_, rfl⟩
 rw [← hM] at h1 ⊢
 have hand := and_lo32 (M + c) (by omega)
 obtain ⟨lo, hlo⟩ : ∃ lo, lo = (M + c) % 4294967296 := ⟨_, rfl⟩
 obtain ⟨hi, hhi⟩ : ∃ hi, hi = (M + c) / 4294967296 := ⟨_, rfl⟩
 rw [← hlo] at hand
 have hMw : IntKind.u64.wrap ((g : Int) * (v : Int)) = (M : Int) := by
  rw [show ((g : Int) * (v : Int)) = (M : Int) by rw [hM]; simp, IntKind.wrap_u64]; omega
 by_cases h : lo + b ≤ x
 ·obtain ⟨T, t1, t2, t3⟩ := wrap_sub2' x b lo (x - lo - b) 0 (by omega) (by omega) (by omega)
  exact ⟨M, M + c, lo, hi, x - lo - b, 0, T, by omega, by omega, by omega, by omega, by omega, h1, rfl, by omega, hMw, by rw [IntKind.wrap_u64]; omega, by omega, hand, t1, t2, t3⟩
 ·obtain ⟨T, t1, t2, t3⟩ := wrap_sub2' x b lo (x + 4294967296 - lo - b) 1 (by omega) (by omega) (by omega)
  exact ⟨M, M + c, lo, hi, x + 4294967296 - lo - b, 1, T, by omega, by omega, by omega, by omega, by omega, h1, rfl, by omega, hMw, by rw [IntKind.wrap_u64]; omega, by omega, hand, t1, t2, t3⟩
theorem sub_lastW (c b x : Nat) (hc : c < 4294967296) (hb : b ≤ 1) (hx : x < 4294967296) :
  ∃ (z d : Nat) (T : Int), z < 4294967296 ∧ d ≤ 1 ∧ z + b + c = x + d * 4294967296 ∧
   IntKind.u64.wrap (IntKind.u64.wrap ((x : Int) - (b : Int)) - (c : Int)) = T ∧ T % 4294967296 = (z : Int) ∧ T / 9223372036854775808 = (d : Int) := by
 by_cases h : c + b ≤ x
 ·obtain ⟨T, t1, t2, t3⟩ := wrap_sub2' x b c (x - c - b) 0 (by omega) (by omega) (by omega)
  exact ⟨x - c - b, 0, T, by omega, by omega, by omega, t1, t2, t3⟩
 ·obtain ⟨T, t1, t2, t3⟩ := wrap_sub2' x b c (x + 4294967296 - c - b) 1 (by omega) (by omega) (by omega)
  exact ⟨x + 4294967296 - c - b, 1, T, by omega, by omega, by omega, t1, t2, t3⟩
theorem sub_end {D V X g j n T b c y d : Nat} (hV0 : 0 < V) (hVn : V < 4294967296 ^ n) (hX : X < V * 4294967296 ^ (j + 1)) (hq1 : X / 4294967296 ^ j / V = dig 4294967296 (D / V) j) (hq2 : X - X / 4294967296 ^ j / V * V * 4294967296 ^ j = D % (V * 4294967296 ^ j))
  (h : SubSt 4294967296 V X g j n T b c) (hg1 : X / 4294967296 ^ j / V ≤ g) (hg2 : g ≤ X / 4294967296 ^ j / V + 1) (hy : y < 4294967296) (hd : d ≤ 1) (hst : y + b + c = dig 4294967296 X (n + j) + d * 4294967296) :
  (d = 0 → g = dig 4294967296 (D / V) j ∧ setDig 4294967296 T (n + j) y = D % (V * 4294967296 ^ j)) ∧
  (d = 1 → g = dig 4294967296 (D / V) j + 1 ∧ setDig 4294967296 T (n + j) y + V * 4294967296 ^ j = D % (V * 4294967296 ^ j) + 4294967296 ^ (n + j + 1) ∧ (∀ k, n + j + 1 ≤ k → dig 4294967296 (setDig 4294967296 T (n + j) y) k = 0)) := by
 have hl := h.last (by omega) hVn hV0 hX hg1 hg2 hy hd hst
 rw [hq1] at hl hq2
 rcases hl with ⟨rfl, h1, h2⟩ | ⟨rfl, h1, h2, h3⟩
 ·exact ⟨fun _ => ⟨h1, by rw [h2, hq2]⟩, fun h => by omega⟩
 ·refine ⟨fun h => by omega, fun _ => ⟨h1, ?_, h3⟩⟩
  have hqX : X / 4294967296 ^ j / V * V * 4294967296 ^ j ≤ X := Nat.le_trans (Nat.mul_le_mul_right _ (Nat.div_mul_le_self _ _)) (Nat.div_mul_le_self _ _)
  rw [hq1] at hqX
  rw [h1, Nat.add_mul, Nat.one_mul, Nat.add_mul] at h2
  generalize dig 4294967296 (D / V) j * V * 4294967296 ^ j = F at *
  omega
theorem add_words (c u v : Nat) (hc : c ≤ 1) (hu : u < 4294967296) (hv : v < 4294967296) :
  ∃ t s z d : Nat, t = u + v ∧ s = c + t ∧ z < 4294967296 ∧ d ≤ 1 ∧ c + (u + v) = z + d * 4294967296 ∧ s ≤ 8589934591 ∧ (u : Int) + (v : Int) = (t : Int) ∧ (c : Int) + (t : Int) = (s : Int) ∧ (s : Int) % 4294967296 = (z : Int) ∧ (s : Int) / 4294967296 = (d : Int) := by
 exact ⟨u + v, c + (u + v), (c + (u + v)) % 4294967296, (c + (u + v)) / 4294967296, rfl, rfl, by omega, by omega, by omega, by omega, by omega, by omega, by omega, by omega⟩
theorem q_upto (f : Nat → Nat) (j k : Nat) (h : k ≠ j) : (if j + 1 ≤ k then f k else 0) = (if j ≤ k then f k else 0) := by
 by_cases h1 : j ≤ k
 ·rw [if_pos h1, if_pos (by omega)]
 ·rw [if_neg h1, if_neg (by omega)]
theorem DSt.qend {W2 w : World} {gU L cU gq m T T' Q j g : Nat} (h : DSt W2 w gU L cU gq m T (fun i => if j + 1 ≤ i then dig 4294967296 Q i else 0)) (hT : T = T') (hg : g = dig 4294967296 Q j) :
  DSt W2 (w.setCell ⟨gq, j, none⟩ (.int .u32 (g : Int))) gU L cU gq m T' (fun i => if j ≤ i then dig 4294967296 Q i else 0) := by
 subst hT
 have e : g = (fun i => if j ≤ i then dig 4294967296 Q i else 0) j := by rw [hg]; exact (if_pos (Nat.le_refl j)).symm
 rw [e]
 exact h.qset (f' := fun i => if j ≤ i then dig 4294967296 Q i else 0) j (fun i _ hi => q_upto _ j i hi)
theorem DSt.fin {W2 w : World} {gU L cU gq m T n : Nat} {f : Nat → Nat} (h : DSt W2 w gU L cU gq m T f) (hT : T < 4294967296 ^ n) (hn : n ≤ L) (hL : L ≤ 100000) :
  ∃ R, (∀ W, Below w.heap.size w W → Calls Tryz.prog 91 #[.slice (some ⟨gU, 0, none⟩) n cU] W fun e w' => e = .returned (.slice (some ⟨gU, 0, none⟩) R cU) ∧ W = w') ∧
   (∀ W, Below w.heap.size w W → World.numR W (.slice (some ⟨gU, 0, none⟩) R cU) T) := by
 obtain ⟨l, hl⟩ : ∃ l, l = (List.range n).map (dig 4294967296 T) := ⟨_, rfl⟩
 have h1 := World.owns.takeR h.1 hn (by simp)
 have e1 : (((List.range L).map (dig 4294967296 T)).map u32V).take n = l.map u32V := by
  rw [hl, ← List.map_take, ← List.map_take, List.take_range, Nat.min_eq_left hn]
 rw [e1] at h1
 have hll : l.length = n := by rw [hl]; simp
 have h2 := World.owns.takeR h1 (show (trimL l).length ≤ n by have := trimL_len l; omega) (by simp)
 rw [← List.map_take, trimL_take] at h2
 have hw : trimL l = wd T := by rw [hl]; exact range_wd T n hT
 have hc2 : n ≤ cU := by
  rcases h1.2 with ⟨h0, -⟩ | ⟨g, cap, cur, fz, e, hb, hg, hf, hc, -⟩
  ·cases h0
  ·injection e with _ _ e3; omega
 rw [hw] at h2
 refine ⟨(trimL l).length, fun W hW => ?_, fun W hW => ?_⟩
 ·refine norm_list l _ n rfl hll.symm _ cU (by omega) hc2 W (fun k x hk => ⟨gU, 0, rfl, ?_⟩)
  rcases Nat.lt_or_ge k n with hkn | hkn
  ·have h3 := (h.cell k (by omega)).1
   have hk2 : x = dig 4294967296 T k := by
    rw [hl, List.getElem?_map, List.getElem?_range hkn] at hk
    injection hk with hk
    exact hk.symm
   rw [hk2, Nat.zero_add]
   have hlt := (h.1.lt gU rfl).2
   exact (hW.cell (p := ⟨gU, k, none⟩) hlt).trans h3
  ·rw [List.getElem?_eq_none (by omega)] at hk
   cases hk
 ·rw [hw]
  have h5 : World.numR w (.slice (some ⟨gU, 0, none⟩) (wd T).length cU) T := h2.reads
  exact numR_below h5 hW
theorem DSt.finQ {W2 w : World} {gU L cU gq m T Q : Nat} (h : DSt W2 w gU L cU gq m T (dig 4294967296 Q)) (hQ : Q < 4294967296 ^ m) (hm : m ≤ 100000) :
  ∃ R, (∀ W, Below w.heap.size w W → Calls Tryz.prog 91 #[.slice (some ⟨gq, 0, none⟩) m m] W fun e w' => e = .returned (.slice (some ⟨gq, 0, none⟩) R m) ∧ W = w') ∧
   (∀ W, Below w.heap.size w W → World.numR W (.slice (some ⟨gq, 0, none⟩) R m) Q) := by
 obtain ⟨R, HR⟩ : ∃ R, Hid (R = (trimL ((List.range m).map (dig 4294967296 Q))).length) := ⟨_, rfl⟩
 have hlt : gq < w.heap.size := (Array.getElem?_eq_some_iff.1 h.2.1).1
 refine ⟨R, fun W hW => norm_rowF _ _ _ R HR W _ ((hW.block _ hlt).trans h.2.1) hm, fun W hW => ?_⟩
 have h1 := (num_retF (w := W2) HR h.2.1 h.2.2.1 h.2.2.2.2 hm hQ).numR
 exact numR_below h1 hW
end
/- Walks: the long division. -/
section
open Go.RowKit Go.Shelf Go.WideNum
theorem owns_slice {W : World} {base n : Nat} {T : TypeId} {v : Value} {xs : List Value} (h : W.owns base T 1 v n xs) (hn : 0 < n) : ∃ g cap, v = .slice (some ⟨g, 0, none⟩) n cap ∧ n ≤ cap ∧ cap ≤ maxLen := by
 rcases h.2 with ⟨_, h0⟩ | ⟨g, cap, cur, fz, rfl, hb, hg, hf, hc, hm, _⟩
 ·omega
 ·exact ⟨g, cap, rfl, hc, hm⟩
theorem top_ne (C n : Nat) (hn : (wd C).length = n + 1) : dig 4294967296 C n ≠ 0 := by
 have h4 := words_trimmed (B := 4294967296) (by omega) C C (Nat.le_refl _)
 have h5 : (words 4294967296 C).getLast? = some (dig 4294967296 C n) := by
  rw [List.getLast?_eq_getElem?]
  unfold wd at hn
  rw [hn, Nat.add_sub_cancel]
  exact words_getE (by omega) C n (by omega)
 exact h4 _ h5
theorem divide_big (A C : Nat) (hC32 : 4294967296 ≤ C) (hAC : C ≤ A) (hla : (wd A).length ≤ 2000) : DivOK A C := by
  intro va vb w hA hC
  obtain ⟨HPOST, hpost⟩ : ∃ R, R = DivRet w A C := ⟨_, rfl⟩
  rw [← hpost]
  have HP := Lib.hid hpost
  have HA : Hid (World.numR w va A) := hA
  have HC : Hid (World.numR w vb C) := hC
  clear hpost
  have hlc : (wd C).length ≤ 2000 := wd_len_le2 hAC hla
  have hcmp := compare_num A C _ _ w hA hC hla hlc
  obtain ⟨aa, ca, rfl, -, -, -⟩ := reads_u32 hA
  obtain ⟨ab, cb, rfl, -, -, hsb⟩ := reads_u32 hC
  clear hA hC
  have hn2 : 1 < (wd C).length := words_lenlt (B := 4294967296) (by omega) C 1 (by omega)
  obtain ⟨k, hk⟩ : ∃ k, (wd C).length = k + 2 := ⟨(wd C).length - 2, by omega⟩
  obtain ⟨b, off, rfl, hbl, hx0⟩ := hsb (k + 1) _ (wd_get C (k + 1) (by omega))
  have hxn := top_ne C (k + 1) hk
  have hx32 := wd_dig C (k + 1)
  obtain ⟨x, ex⟩ : ∃ x, x = dig 4294967296 C (k + 1) := ⟨_, rfl⟩
  obtain ⟨b1, b2, b3⟩ := bitLen_spec x (by omega)
  have hbl0 : Lib.bitLen x ≠ 0 := fun h => by rw [h] at b1; omega
  obtain ⟨s, hs⟩ : ∃ s, s = 32 - Lib.bitLen x := ⟨_, rfl⟩
  have hs32 : s < 32 := by omega
  have hlz := fun W => lz_any x W (by omega)
  rw [← hs] at hlz
  have HLZ : Hid (∀ W, Calls Tryz.prog 92 #[.int .u32 (x : Int)] W fun e w' => e = .returned (.int .i64 (s : Int)) ∧ W = w') := hlz
  obtain ⟨p, hp⟩ : ∃ p, p = (wd A).length := ⟨_, rfl⟩
  obtain ⟨n, hn⟩ : ∃ n, n = (wd C).length := ⟨_, rfl⟩
  have hnk : n = k + 2 := by rw [hn, hk]
  obtain ⟨f1, f2, f3, f4, f5, f6, f7, f8⟩ := norm_facts A C s n p hn hp hAC (by omega) hs32 (by rw [show n - 1 = k + 1 by omega, ← ex, show 32 - s = Lib.bitLen x by omega]; exact b1)
  have hLCo : Hid (∀ W, World.numR W (.slice (some ⟨b, off, none⟩) n cb) C → Calls Tryz.prog 99 #[.slice (some ⟨b, off, none⟩) n cb, .int .i64 (s : Int)] W (NumRet W (C * 2 ^ s))) := fun W h => left_num C s (by omega) _ W h hlc _ rfl
  have hLAo : Hid (∀ W, World.numR W (.slice aa p ca) A → Calls Tryz.prog 99 #[.slice aa p ca, .int .i64 (s : Int)] W (NumRet W (A * 2 ^ s))) := fun W h => left_num A s (by omega) _ W h hla _ rfl
  have hpos2 : 0 < 2 ^ s := Nat.pow_pos (by omega)
  have hdivq : A * 2 ^ s / (C * 2 ^ s) = A / C := Nat.mul_div_mul_right _ _ hpos2
  have hmodq : A * 2 ^ s % (C * 2 ^ s) = A % C * 2 ^ s := Nat.mul_mod_mul_right _ _ _
  have hLaA : p ≤ (wd (A * 2 ^ s)).length := by
    rw [hp]; exact wd_len_le2 (Nat.le_mul_of_pos_right A hpos2) (Nat.le_refl _)
  obtain ⟨V, hV⟩ : ∃ V, V = C * 2 ^ s := ⟨_, rfl⟩
  obtain ⟨D, hD⟩ : ∃ D, D = A * 2 ^ s := ⟨_, rfl⟩
  rw [← hV] at f1 f2 f6 f7 hLCo hdivq hmodq
  rw [← hD] at f2 f3 f4 hLAo hdivq hmodq hLaA
  obtain ⟨m, hm⟩ : ∃ m, m = p + 1 - n := ⟨_, rfl⟩
  rw [← hm] at f2
  obtain ⟨R, hR⟩ : ∃ R, R = cmpN A C := ⟨_, rfl⟩
  rw [← hR] at hcmp
  have hR0 : ¬ R < 0 := by
    rw [hR, cmpN, if_neg (by omega)]
    split <;> omega
  rw [← ex] at hx0
  rw [← hn, ← hp] at hcmp ⊢
  rw [← hn] at HC hlc
  rw [← hp] at HA hla
  have HCMP := Lib.hid hcmp
  have HV1 := Lib.hid f1
  have HDV := Lib.hid f2
  have HDL := Lib.hid f3
  have HDLen := Lib.hid f4
  have HVB := Lib.hid f6
  have HVlo : Hid (4294967296 ^ (k + 1) ≤ V) := by rw [show k + 1 = n - 1 by omega]; exact f7
  have HQ := Lib.hid hdivq
  have HM := Lib.hid hmodq
  have HLaA := Lib.hid hLaA
  have HZD := Lib.hid (zeros_app D)
  have hn1 : (n : Int) - 1 = ((k + 1 : Nat) : Int) := by omega
  have hnne : ¬ (n : Int) = 1 := by omega
  have hki : ((k + 1 : Nat) : Int) < (n : Int) := by omega
  have hkp : (0 : Int) ≤ ((k + 1 : Nat) : Int) := by omega
  have hmI : (p : Int) + 1 - (n : Int) = (m : Int) := by omega
  have hm1 : 1 ≤ m := by omega
  have hm2 : m ≤ 2001 := by omega
  have HKN := Lib.hid hnk
  have hpp1 : m + n = p + 1 := by omega
  have HMN := Lib.hid hpp1
  clear hcmp f1 f2 f3 f4 f6 f7 hdivq hmodq hLaA hsb hR hV hD hm hxn hx32 ex b1 b2 b3 hbl0 hs hlz hpos2 hn hp hk hn2 hpp1 hnk
  go_enter Tryz.func109, Tryz.ntmps109
  go_wp2_with fail
  (with_reducible refine (HCMP.out).mono ?_)
  rintro e w1 ⟨rfl, n1, rfl⟩
  have hx : (w.drewN n1).cell? ⟨b, off + (k + 1), none⟩ = some (.int .u32 (x : Int)) := hx0
  clear hx0
  go_wp2_with fail
  (with_reducible refine (HLZ.out _).mono ?_)
  rintro e w2 ⟨rfl, rfl⟩
  have HC1 : Hid (World.numR (w.drewN n1) (.slice (some ⟨b, off, none⟩) n cb) C) := numR_drewN HC.out n1
  have HA1 : Hid (World.numR (w.drewN n1) (.slice aa p ca) A) := numR_drewN HA.out n1
  have HB1 : Hid (Below w.heap.size w (w.drewN n1)) := below_drewN (Below.refl _ _) n1
  clear hx
  generalize w.drewN n1 = w2 at HC1 HA1 HB1 ⊢
  go_wp2_with fail
  (with_reducible refine (hLCo.out _ HC1.out).mono ?_)
  rintro e w3 ⟨v3, rfl, ho3, hb3⟩
  rw [HV1.out] at ho3
  obtain ⟨gV, cV, rfl, hcV, hcVm⟩ := owns_slice ho3 (by have := HKN.out; omega)
  have HVC : Hid (∀ i, i < n → w3.cell? ⟨gV, i, none⟩ = some (.int .u32 (dig 4294967296 V i : Int))) := fun i hi => ho3.cell i _ (by
    have := wd_get V i (by rw [HV1.out]; exact hi)
    rw [List.getElem?_map, this]; rfl)
  have HVlt : Hid (gV < w3.heap.size) := (ho3.lt gV rfl).2
  have HA3 := Lib.hid (numR_below HA1.out hb3)
  have HB3 := Lib.hid (HB1.out.trans (hb3.mono HB1.out.size))
  clear hb3 ho3
  go_wp2_with fail
  (with_reducible refine (hLAo.out _ HA3.out).mono ?_)
  rintro e w4 ⟨v4, rfl, ho4, hb4⟩
  obtain ⟨La, hLa⟩ : ∃ L, L = (wd D).length := ⟨_, rfl⟩
  rw [← hLa] at ho4 HLaA HDLen HZD
  have hLa1 : 0 < La := by have := HLaA.out; have := HMN.out; have := HKN.out; omega
  clear hLa
  obtain ⟨g4, c4, rfl, -, -⟩ := owns_slice ho4 hLa1
  have hLap := HLaA.out
  have hLap2 := HDLen.out
  have HO4 := Lib.hid (ho4.alloc (.cells #[.int .u32 0, .int .u32 0] 22))
  have hz34 : w3.heap.size ≤ (w4.alloc (.cells #[.int .u32 0, .int .u32 0] 22)).heap.size := by have := hb4.size; simp; omega
  have HZ34 := Lib.hid hz34
  have HBX : Hid (∀ w5 : World, World.grownBy (w4.alloc (.cells #[.int .u32 0, .int .u32 0] 22)) w5 (Value.slice (some ⟨g4, 0, none⟩) La c4).ownBlock → Below w3.heap.size w3 w5) := fun w5 hg => (hb4.trans (((Below.refl w4.heap.size w4).alloc (Nat.le_refl _) (.cells #[.int .u32 0, .int .u32 0] 22)).mono hb4.size)).trans (below_grown HO4.out hg w3.heap.size (Nat.le_refl _) HZ34.out)
  obtain ⟨i0, hi0, hiz, hiz1, hizb⟩ := info_parts infoU32
  clear ho4 hb4 hz34
  have hLa3 : La ≤ 2001 := by omega
  have hmk : ∀ W : World, (Instr.makeSlice 103 (.int .i64 (m : Int)) (.int .i64 (m : Int))).run Tryz.prog W = .ok (.slice (some ⟨W.heap.size, 0, none⟩) m m) (W.alloc (.cells (zrow m) 22)) := fun W => make_nat m (by omega) W
  go_wp2_with (at_builtin; refine wpList_append_owns _ rfl (.tmp 56) (.tmp 57) 103 rfl w3.heap.size 22 i0 (.int .u32 0) 1 4 Tryz.underlying103 hi0 hiz hiz1 hizb rfl (by decide) (.slice (some ⟨g4, 0, none⟩) La c4) La _ rfl HO4.out ⟨w4.heap.size, 0, none⟩ 2 2 [.int .u32 0, .int .u32 0] rfl rfl (news_alloc w4 [.int .u32 0, .int .u32 0] 22) (by simp [Value.oneCell']) (by unfold maxLen; omega) (by omega) HZ34.out ?_; intro v5 w5 hown5 hg5 _; have HO5 := Lib.hid hown5; have HB5 := Lib.hid (HBX.out _ hg5); obtain ⟨gU, cU, rfl, hcU, hcUm⟩ := owns_slice hown5 (by omega); clear hown5 hg5; have hpcU : (p : Int) + 1 ≤ (cU : Int) := by omega)
  have hgU5 : gU < w5.heap.size := (HO5.out.lt gU rfl).2
  have h35 := HB5.out.size
  have hds : DSt w3 (w5.alloc (.cells (zrow m) 22)) gU (p + 1) cU w5.heap.size m (D % (V * 4294967296 ^ m)) (fun i => if m ≤ i then dig 4294967296 (D / V) i else 0) := by
    refine ⟨?_, ?_, HB5.out.alloc h35 _, by omega, h35⟩
    · have h1 := (World.owns.takeR HO5.out (show p + 1 ≤ La + 2 by omega) (by simp)).alloc (.cells (zrow m) 22)
      rw [HZD.out] at h1
      rw [Nat.mod_eq_of_lt HDV.out]
      simpa [← List.map_take, List.take_range, Nat.min_eq_left (show p + 1 ≤ La + 2 by omega)] using h1
    · rw [rowF_congr (f' := fun _ => 0) (fun j hj => if_neg (by omega)), rowF_zero]
      exact heap_alloc_new w5 _
  obtain ⟨gq, hgq⟩ : ∃ g, g = w5.heap.size := ⟨_, rfl⟩
  rw [← hgq] at hds ⊢
  have HDS := Lib.hid hds
  have HPC : Hid (p + 1 ≤ cU) := by show _ ≤ _; omega
  clear hds HO4 HZ34 HBX HO5 HB5 hgU5 h35 hgq hi0 hiz hiz1 hizb hmk HZD HLaA hLap hLap2 HDLen hpcU
  generalize w5.alloc (.cells (zrow m) 22) = w6 at HDS ⊢
  obtain ⟨k1, hk1⟩ : ∃ z, z = k + 1 := ⟨_, rfl⟩
  clear hn1 hki hkp
  have hn1 : (n : Int) - 1 = (k1 : Int) := by have := HKN.out; omega
  have hn2 : (n : Int) - 2 = (k : Int) := by have := HKN.out; omega
  have HK1 := Lib.hid hk1
  clear hk1
  go_loopw [13] (fun jv wr => ∃ kk : Nat, kk ≤ m ∧ jv = .int .i64 ((kk : Int) - 1) ∧ Hid (DSt w3 wr gU (p + 1) cU gq m (D % (V * 4294967296 ^ kk)) (fun i => if kk ≤ i then dig 4294967296 (D / V) i else 0))) (fun jv _ => (intOf jv + 1).toNat)
  case atStart => exact ⟨m, Nat.le_refl _, rfl, HDS.out⟩
  case round =>
    obtain ⟨kk, hkk, rfl, hS⟩ := hrel
    cases kk with
    | zero =>
      rw [Nat.pow_zero, Nat.mul_one, HM.out] at hS
      have hf : (fun i => if 0 ≤ i then dig 4294967296 (D / V) i else 0) = dig 4294967296 (A / C) := by
        funext i
        rw [if_pos (Nat.zero_le i), HQ.out]
      rw [hf] at hS
      have hV0 : 0 < V := Nat.lt_of_lt_of_le (Nat.pow_pos (by omega)) HVlo.out
      have hT : A % C * 2 ^ s < 4294967296 ^ n := by
        rw [← HM.out]
        exact Nat.lt_trans (Nat.mod_lt _ hV0) HVB.out
      have hQl : A / C < 4294967296 ^ m := by
        rw [← HQ.out]
        exact (Nat.div_lt_iff_lt_mul hV0).2 (by rw [Nat.mul_comm]; exact HDV.out)
      have hkn := HKN.out
      have hmn := HMN.out
      have hncU : n ≤ cU := by have := HPC.out; omega
      obtain ⟨R1, hn1q, hr1q⟩ := hS.out.finQ hQl (by omega)
      obtain ⟨R2, hn2u, hr2u⟩ := hS.out.fin hT (show n ≤ p + 1 by omega) (by omega)
      have hrt : ∀ W, World.numR W (.slice (some ⟨gU, 0, none⟩) R2 cU) (A % C * 2 ^ s) → Calls Tryz.prog 115 #[.slice (some ⟨gU, 0, none⟩) R2 cU, .int .i64 (s : Int)] W (NumRet W (A % C * 2 ^ s / 2 ^ s)) := fun W hW => right_any _ s hs32 _ W hW (by
        have := words_length (B := 4294967296) (by omega) (A % C * 2 ^ s) n hT
        unfold wd
        omega)
      rw [Nat.mul_div_cancel _ (Nat.pow_pos (by omega))] at hrt
      have HN1 := Lib.hid hn1q
      have HN2 := Lib.hid hn2u
      have HR1 := Lib.hid hr1q
      have HR2 := Lib.hid hr2u
      have HRT := Lib.hid hrt
      have hb34 := hS.out.2.2.1
      have HBW := Lib.hid (HB3.out.trans (hb34.mono HB3.out.size))
      have hwr0 : Below wr.heap.size wr wr.drew := (Below.refl _ _).drew
      clear hf hV0 hT hQl hkn hmn hn1q hr1q hn2u hr2u hrt hb34 hS
      have h0 : ¬ (0 : Int) ≤ ((0 : Nat) : Int) - 1 := by omega
      go_wp2_with fail
      go_region_held3 (fun _ => True) (trivial)
        (first
          | (go_simp; go_at_call 91; (with_reducible refine (HN1.out _ hwr0).mono ?_); rintro e w5 ⟨rfl, rfl⟩)
          | (go_simp; go_at_call 91; (with_reducible refine (HN2.out _ hwr0).mono ?_); rintro e w5 ⟨rfl, rfl⟩)
          | (go_simp; go_at_call 115; (with_reducible refine (HRT.out _ (HR2.out _ hwr0)).mono ?_); rintro e w8 hr8; obtain ⟨v8, rfl, ho8, hb8⟩ := hr8; have H8 : Hid (NumRet wr.drew (A % C) (.returned v8) w8) := ⟨v8, rfl, ho8, hb8⟩; clear ho8 hb8))
      all_goals
        go_wp2
        rw [HP.out]
        exact ⟨_, _, rfl, HR1.out _ H8.out.belD, H8.out.numR, HBW.out.trans (H8.out.belD.mono HBW.out.size)⟩
    | succ j =>
      rw [show ((j + 1 : Nat) : Int) - 1 = (j : Int) by omega]
      obtain ⟨X, hX⟩ : ∃ X, X = D % (V * 4294967296 ^ (j + 1)) := ⟨_, rfl⟩
      have hV0 : 0 < V := Nat.lt_of_lt_of_le (Nat.pow_pos (by omega)) HVlo.out
      have hXl : X < V * 4294967296 ^ (j + 1) := by rw [hX]; exact Nat.mod_lt _ (Nat.mul_pos hV0 (Nat.pow_pos (by omega)))
      have hrnd := rnd_of V X k j (by rw [← HKN.out]; exact HVB.out) HVlo.out hXl
      rw [← hX] at hS
      obtain ⟨hq1, hq2⟩ := quot_word (B := 4294967296) (A := D) (V := V) (j := j) (by omega) hV0
      rw [← hX] at hq1 hq2
      have HXL := Lib.hid hXl
      have HQ1 := Lib.hid hq1
      have HQ2 := Lib.hid hq2
      clear hX hXl hq1 hq2
      have hmn := HMN.out
      have hkn := HKN.out
      have hk1 := HK1.out
      rw [← hk1] at hrnd
      obtain ⟨jn, ejn⟩ : ∃ z, z = j + n := ⟨_, rfl⟩
      obtain ⟨jm, ejm⟩ : ∃ z, z = j + k1 := ⟨_, rfl⟩
      obtain ⟨jk, ejk⟩ : ∃ z, z = j + k := ⟨_, rfl⟩
      obtain ⟨cy1, -⟩ := hS.out.cell jn (by omega)
      obtain ⟨cy0, -⟩ := hS.out.cell jm (by omega)
      obtain ⟨cy2, -⟩ := hS.out.cell jk (by omega)
      have hbel := hS.out.2.2.1
      have cv1 := (hbel.cell (p := ⟨gV, k1, none⟩) HVlt.out).trans (HVC.out k1 (by omega))
      have cv2 := (hbel.cell (p := ⟨gV, k, none⟩) HVlt.out).trans (HVC.out k (by omega))
      rw [show j + (k + 2) = jn by omega, ← ejm, ← ejk] at hrnd
      obtain ⟨q, hq⟩ : ∃ q, q = X / 4294967296 ^ j / V := ⟨_, rfl⟩
      have hy1 := dig_lt (B := 4294967296) (by omega) X jn
      have hy0 := dig_lt (B := 4294967296) (by omega) X jm
      obtain ⟨y1, ey1⟩ : ∃ y, y = dig 4294967296 X jn := ⟨_, rfl⟩
      obtain ⟨y0, ey0⟩ : ∃ y, y = dig 4294967296 X jm := ⟨_, rfl⟩
      obtain ⟨y2, ey2⟩ : ∃ y, y = dig 4294967296 X jk := ⟨_, rfl⟩
      obtain ⟨v1, ev1⟩ : ∃ y, y = dig 4294967296 V k1 := ⟨_, rfl⟩
      obtain ⟨v2, ev2⟩ : ∃ y, y = dig 4294967296 V k := ⟨_, rfl⟩
      rw [← hq] at hrnd
      have HQE := Lib.hid hq
      rw [← ey1, ← ey0, ← ey2, ← ev1, ← ev2] at hrnd
      rw [← ey1] at cy1 hy1
      rw [← ey0] at cy0 hy0
      rw [← ey2] at cy2
      rw [← ev1] at cv1
      rw [← ev2] at cv2
      obtain ⟨pp, epp⟩ : ∃ z, z = y1 * 4294967296 := ⟨_, rfl⟩
      obtain ⟨top, etop⟩ : ∃ z, z = pp + y0 := ⟨_, rfl⟩
      have hor : bits .or .u64 (pp : Int) (y0 : Int) = (top : Int) := by
        have := or_lo .u64 (Or.inl rfl) 32 y1 y0 (by omega) (by simp only [if_true]; omega)
        rw [show y1 * 2 ^ 32 = pp by rw [epp], ← etop] at this
        exact this
      rw [← epp, ← etop] at hrnd
      have hpv := hrnd.pos
      have hpb := hrnd.v1B
      have hpt := hrnd.top64
      have hpv2 := hrnd.v2B
      have hpu2 := hrnd.u2B
      have HRND := Lib.hid hrnd
      have HPT := Lib.hid hpt
      have u1 : IntKind.u64.wrap ((y1 : Int) * 4294967296) = (pp : Int) := by rw [IntKind.wrap_u64]; omega
      have u1' : IntKind.u64.wrap ((y1 : Int) * 2 ^ 32) = (pp : Int) := by rw [IntKind.wrap_u64]; omega
      have u2 : IntKind.u64.wrap (y1 : Int) = (y1 : Int) := by rw [IntKind.wrap_u64]; omega
      have u3 : IntKind.u64.wrap (y0 : Int) = (y0 : Int) := by rw [IntKind.wrap_u64]; omega
      have u4 : IntKind.u64.wrap (v1 : Int) = (v1 : Int) := by rw [IntKind.wrap_u64]; omega
      have i1 : (j : Int) + (n : Int) = (jn : Int) := by omega
      have i2 : (jn : Int) - 1 = (jm : Int) := by omega
      have i3 : (jn : Int) < (p : Int) + 1 := by omega
      have i4 : (jm : Int) < (p : Int) + 1 := by omega
      have i5 : (k1 : Int) < (n : Int) := by omega
      have i6 : (jn : Int) ≤ 4000 := by omega
      have i7 : IntKind.i64.wrap (jn : Int) = (jn : Int) := by rw [IntKind.wrap_i64]; omega
      have i8 : IntKind.i64.wrap (jm : Int) = (jm : Int) := by rw [IntKind.wrap_i64]; omega
      have i9 : IntKind.i64.wrap (k1 : Int) = (k1 : Int) := by rw [IntKind.wrap_i64]; omega
      have EJN := Lib.hid ejn
      have EJM := Lib.hid ejm
      have EJK := Lib.hid ejk
      have EY1 := Lib.hid ey1
      have EY2 := Lib.hid ey2
      have EV1 := Lib.hid ev1
      have EV2 := Lib.hid ev2
      clear ey1 ey0 ey2 ev1 ev2 epp etop hrnd hbel hq hkn hmn hpt hk1 ejn ejm ejk
      go_wp2_with fail
      go_step3
      go_upto_region 14 with (fail)
      go_quiet (fail)
      have hS1 : DSt w3 (wr.drewN nq) gU (p + 1) cU gq m X (fun i => if j + 1 ≤ i then dig 4294967296 (D / V) i else 0) := hS.out.drewN nq
      have cz1 : (wr.drewN nq).cell? ⟨gV, k1, none⟩ = some (.int .u32 (v1 : Int)) := cv1
      have cz2 : (wr.drewN nq).cell? ⟨gV, k, none⟩ = some (.int .u32 (v2 : Int)) := cv2
      have cy2' : (wr.drewN nq).cell? ⟨gU, jk, none⟩ = some (.int .u32 (y2 : Int)) := cy2
      clear hS cv1 cv2 cy2 cy1 cy0 hor u1 u1' u2 u3
      generalize wr.drewN nq = wa at hS1 cz1 cz2 cy2' ⊢
      have HS1 := Lib.hid hS1
      obtain ⟨g0, eg0⟩ : ∃ z, z = top / v1 := ⟨_, rfl⟩
      obtain ⟨r0, er0⟩ : ∃ z, z = top % v1 := ⟨_, rfl⟩
      have t1 : (top : Int) / (v1 : Int) = (g0 : Int) := by rw [eg0, Int.natCast_ediv]
      have t1' : (top : Int).tdiv (v1 : Int) = (g0 : Int) := by rw [Int.tdiv_eq_ediv_of_nonneg (by omega), t1]
      have t2 : (top : Int) % (v1 : Int) = (r0 : Int) := by rw [er0, Int.natCast_emod]
      have t2' : (top : Int).tmod (v1 : Int) = (r0 : Int) := by rw [Int.tmod_eq_emod_of_nonneg (by omega), t2]
      have hgr : g0 * v1 + r0 = top := by rw [eg0, er0, Nat.mul_comm]; exact Nat.div_add_mod top v1
      have hr0 : r0 < v1 := by rw [er0]; exact Nat.mod_lt _ hpv
      have hqg0 : q ≤ g0 := by rw [eg0]; exact HRND.out.ge
      have hg64 : g0 ≤ top := by rw [eg0]; exact Nat.div_le_self _ _
      have t3 : IntKind.u64.wrap (g0 : Int) = (g0 : Int) := by have := HPT.out; rw [IntKind.wrap_u64]; omega
      have hv1n : ¬ v1 = 0 := by omega
      have hv1I : ¬ (v1 : Int) = 0 := by omega
      have hv1b : ((v1 : Int) == 0) = false := by rw [beq_eq_false_iff_ne]; omega
      have HGR := Lib.hid hgr
      have HR0 := Lib.hid hr0
      have HQG0 := Lib.hid hqg0
      have HG64 := Lib.hid hg64
      clear hS1 eg0 er0 hgr hr0 hqg0 hg64
      go_upto_region 15 with (fail)
      go_quiet (fail)
      have hS2 : DSt w3 (wa.drewN nq) gU (p + 1) cU gq m X (fun i => if j + 1 ≤ i then dig 4294967296 (D / V) i else 0) := HS1.out.drewN nq
      have cz1' : (wa.drewN nq).cell? ⟨gV, k1, none⟩ = some (.int .u32 (v1 : Int)) := cz1
      have cz2' : (wa.drewN nq).cell? ⟨gV, k, none⟩ = some (.int .u32 (v2 : Int)) := cz2
      have cy3 : (wa.drewN nq).cell? ⟨gU, jk, none⟩ = some (.int .u32 (y2 : Int)) := cy2'
      clear HS1 cz1 cz2 cy2' t1 t1' t2 t2' hv1b
      generalize wa.drewN nq = wb at hS2 cz1' cz2' cy3 ⊢
      have HS2 := Lib.hid hS2
      clear hS2 cz1' cz2' cy3
      have j1 : (jn : Int) - 2 = (jk : Int) := by have := EJN.out; have := EJK.out; have := HKN.out; omega
      have j2 : IntKind.i64.wrap (jk : Int) = (jk : Int) := by have := EJK.out; rw [IntKind.wrap_i64]; omega
      have j3 : IntKind.i64.wrap (k : Int) = (k : Int) := by have := HKN.out; rw [IntKind.wrap_i64]; omega
      have j4 : (jk : Int) < (p : Int) + 1 := by have := EJN.out; have := EJK.out; have := HKN.out; omega
      have j5 : (k : Int) < (n : Int) := by have := HKN.out; omega
      have j6 : IntKind.u64.wrap (v2 : Int) = (v2 : Int) := by rw [IntKind.wrap_u64]; omega
      have j7 : IntKind.u64.wrap (y2 : Int) = (y2 : Int) := by rw [IntKind.wrap_u64]; omega
      go_wp2_with fail
      go_step3
      go_upto_block 2 with fail
      go_cut [15, 16] from 110 to 145 (fun gv rv wx => ∃ g r : Nat, gv = .int .u64 (g : Int) ∧ rv = .int .u64 (r : Int) ∧ Hid (q ≤ g ∧ g ≤ q + 1 ∧ g < 4294967296) ∧ Hid (DSt w3 wx gU (p + 1) cU gq m X (fun i => if j + 1 ≤ i then dig 4294967296 (D / V) i else 0)))
      case first =>
        go_wp2_with fail
        go_loopw [15, 16] (fun gv rv wr => ∃ g r : Nat, gv = .int .u64 (g : Int) ∧ rv = .int .u64 (r : Int) ∧ g * v1 + r = top ∧ r < 4294967296 ∧ q ≤ g ∧ Hid (DSt w3 wr gU (p + 1) cU gq m X (fun i => if j + 1 ≤ i then dig 4294967296 (D / V) i else 0))) (fun gv _ _ => (intOf gv).toNat)
        case atStart => exact ⟨g0, r0, rfl, rfl, HGR.out, by have := HR0.out; omega, HQG0.out, HS2.out⟩
        case round =>
          obtain ⟨g, r, rfl, rfl, hg, hrB, hqg, hS⟩ := hrel
          have hgt : g ≤ top := by
            have : g * 1 ≤ g * v1 := Nat.mul_le_mul_left g hpv
            omega
          have hpt := HPT.out
          obtain ⟨cy2, -⟩ := hS.out.cell jk (by omega)
          have hbel := hS.out.2.2.1
          have cv1 := (hbel.cell (p := ⟨gV, k1, none⟩) HVlt.out).trans (HVC.out k1 (by omega))
          have cv2 := (hbel.cell (p := ⟨gV, k, none⟩) HVlt.out).trans (HVC.out k (by omega))
          rw [← EY2.out] at cy2
          rw [← EV1.out] at cv1
          rw [← EV2.out] at cv2
          by_cases hgB : 4294967296 ≤ g
          · have hgI : (4294967296 : Int) ≤ (g : Int) := by omega
            have hgD : decide ((4294967296 : Int) ≤ (g : Int)) = true := decide_eq_true hgI
            have hqg := HRND.out.down hg hqg (.inl hgB)
            obtain ⟨g1, eg1⟩ : ∃ z, z = g - 1 := ⟨_, rfl⟩
            obtain ⟨r1, er1⟩ : ∃ z, z = r + v1 := ⟨_, rfl⟩
            have HG1 : Hid (g1 * v1 + r1 = top) := by
              show _ = _
              rw [eg1, er1, ← hg]
              obtain ⟨z, rfl⟩ : ∃ z, g = z + 1 := ⟨g - 1, by omega⟩
              rw [Nat.add_sub_cancel, Nat.add_mul]
              omega
            have HQ1G : Hid (q ≤ g1) := by show _ ≤ _; omega
            have u7 : IntKind.u64.wrap ((g : Int) - 1) = (g1 : Int) := by rw [IntKind.wrap_u64]; omega
            have u8 : IntKind.u64.wrap ((r : Int) + (v1 : Int)) = (r1 : Int) := by rw [IntKind.wrap_u64]; omega
            have hg1lt : g1 < g := by omega
            go_upto_region 16 with (fail)
            go_quiet (fail)
            have cv1x : (wr.drewN nq).cell? ⟨gV, k1, none⟩ = some (.int .u32 (v1 : Int)) := cv1
            have hSX := hS.out.drewN nq
            clear cv1 cv2 cy2 hS hbel
            generalize wr.drewN nq = wx at cv1x hSX ⊢
            have HSX := Lib.hid hSX
            clear hSX
            clear hg eg1 er1 hpt hgt hqg hgI hgD hgB
            by_cases hrb : 4294967296 ≤ r1
            · have hrI : (4294967296 : Int) ≤ (r1 : Int) := by omega
              have hrD : decide ((4294967296 : Int) ≤ (r1 : Int)) = true := decide_eq_true hrI
              have hfin := HRND.out.fin2 HG1.out hrb
              have HFIN := Lib.hid hfin
              clear hfin hrb
              go_wp2
              go_meet
              case rel => exact ⟨g1, r1, rfl, rfl, ⟨HQ1G.out, HFIN.out.2, HFIN.out.1⟩, HSX.out⟩
            · have hrI : ¬ (4294967296 : Int) ≤ (r1 : Int) := by omega
              have hrD : decide ((4294967296 : Int) ≤ (r1 : Int)) = false := decide_eq_false hrI
              go_wp2
              go_roundw
              case rel => exact ⟨g1, r1, rfl, rfl, HG1.out, by omega, HQ1G.out, HSX.out⟩
              case measure => simp [intOf]; omega
          · have hgI : ¬ (4294967296 : Int) ≤ (g : Int) := by omega
            have hgD : decide ((4294967296 : Int) ≤ (g : Int)) = false := decide_eq_false hgI
            have hP64 : g * v2 < 4294967296 * 4294967296 := Nat.mul_lt_mul'' (by omega) hpv2
            obtain ⟨P, eP⟩ : ∃ z, z = g * v2 := ⟨_, rfl⟩
            obtain ⟨rr, err⟩ : ∃ z, z = r * 4294967296 := ⟨_, rfl⟩
            obtain ⟨W, eW⟩ : ∃ z, z = rr + y2 := ⟨_, rfl⟩
            rw [← eP] at hP64
            have uP : IntKind.u64.wrap ((g : Int) * (v2 : Int)) = (P : Int) := by
              rw [show ((g : Int) * (v2 : Int)) = (P : Int) by rw [eP]; simp, IntKind.wrap_u64]; omega
            have uR : IntKind.u64.wrap ((r : Int) * 4294967296) = (rr : Int) := by rw [IntKind.wrap_u64]; omega
            have uR' : IntKind.u64.wrap ((r : Int) * 2 ^ 32) = (rr : Int) := by rw [IntKind.wrap_u64]; omega
            have hor : bits .or .u64 (rr : Int) (y2 : Int) = (W : Int) := by
              have := or_lo .u64 (Or.inl rfl) 32 r y2 hpu2 (by simp only [if_true]; omega)
              rw [show r * 2 ^ 32 = rr by rw [err], ← eW] at this
              exact this
            by_cases ht : W < P
            · have hPI : (W : Int) < (P : Int) := by omega
              have hPD : decide ((W : Int) < (P : Int)) = true := decide_eq_true hPI
              have hqg := HRND.out.down hg hqg (.inr (by rw [← eP, ← err, ← eW]; exact ht))
              obtain ⟨g1, eg1⟩ : ∃ z, z = g - 1 := ⟨_, rfl⟩
              obtain ⟨r1, er1⟩ : ∃ z, z = r + v1 := ⟨_, rfl⟩
              have HG1 : Hid (g1 * v1 + r1 = top) := by
                show _ = _
                rw [eg1, er1, ← hg]
                obtain ⟨z, rfl⟩ : ∃ z, g = z + 1 := ⟨g - 1, by omega⟩
                rw [Nat.add_sub_cancel, Nat.add_mul]
                omega
              have HQ1G : Hid (q ≤ g1) := by show _ ≤ _; omega
              have u7 : IntKind.u64.wrap ((g : Int) - 1) = (g1 : Int) := by rw [IntKind.wrap_u64]; omega
              have u8 : IntKind.u64.wrap ((r : Int) + (v1 : Int)) = (r1 : Int) := by rw [IntKind.wrap_u64]; omega
              have hg1lt : g1 < g := by omega
              clear eP err eW hP64 ht
              clear eg1 er1 hpt
              go_upto_region 16 with (fail)
              go_quiet (fail)
              have cv1x : (wr.drewN nq).cell? ⟨gV, k1, none⟩ = some (.int .u32 (v1 : Int)) := cv1
              have hSX := hS.out.drewN nq
              clear cv1 cv2 cy2 hS hbel
              generalize wr.drewN nq = wx at cv1x hSX ⊢
              have HSX := Lib.hid hSX
              clear hSX
              clear hg hgt hqg hgI hgD hgB uP uR uR' hor hPI hPD
              by_cases hrb : 4294967296 ≤ r1
              · have hrI : (4294967296 : Int) ≤ (r1 : Int) := by omega
                have hrD : decide ((4294967296 : Int) ≤ (r1 : Int)) = true := decide_eq_true hrI
                have hfin := HRND.out.fin2 HG1.out hrb
                have HFIN := Lib.hid hfin
                clear hfin hrb
                go_wp2
                go_meet
                case rel => exact ⟨g1, r1, rfl, rfl, ⟨HQ1G.out, HFIN.out.2, HFIN.out.1⟩, HSX.out⟩
              · have hrI : ¬ (4294967296 : Int) ≤ (r1 : Int) := by omega
                have hrD : decide ((4294967296 : Int) ≤ (r1 : Int)) = false := decide_eq_false hrI
                go_wp2
                go_roundw
                case rel => exact ⟨g1, r1, rfl, rfl, HG1.out, by omega, HQ1G.out, HSX.out⟩
                case measure => simp [intOf]; omega
            · have hPI : ¬ (W : Int) < (P : Int) := by omega
              have hPD : decide ((W : Int) < (P : Int)) = false := decide_eq_false hPI
              have HFIN := Lib.hid (HRND.out.fin hg (by omega) (by rw [← eP, ← err, ← eW]; exact ht))
              have HQG := Lib.hid hqg
              have HGB : Hid (g < 4294967296) := by show _ < _; omega
              clear eP err eW hP64 ht
              clear hpt
              go_upto_region 16 with (fail)
              go_quiet (fail)
              have hSX := hS.out.drewN nq
              clear cv1 cv2 cy2 hS hbel
              generalize wr.drewN nq = wx at hSX ⊢
              have HSX := Lib.hid hSX
              clear hSX
              clear hg hgt hqg hgI hgD hgB uP uR uR' hor hPI hPD
              go_wp2
              go_meet
              case rel => exact ⟨g, r, rfl, rfl, ⟨HQG.out, HFIN.out, HGB.out⟩, HSX.out⟩
      case rest =>
        obtain ⟨g, r, rfl, rfl, HGQ, hS⟩ := hcut
        clear HS2 HGR HR0 HQG0 HG64 HRND HPT
        have hgB : g < 4294967296 := HGQ.out.2.2
        go_wp2_with fail
        go_loopw [17, 18, 148] (fun cv bv iv wr => ∃ i c b T : Nat, i ≤ n ∧ iv = .int .i64 (i : Int) ∧ cv = .int .u64 (c : Int) ∧ bv = .int .u64 (b : Int) ∧ Hid (SubSt 4294967296 V X g j i T b c) ∧ Hid (DSt w3 wr gU (p + 1) cU gq m T (fun i => if j + 1 ≤ i then dig 4294967296 (D / V) i else 0))) (fun _ _ iv _ => n - (intOf iv).toNat)
        case atStart => exact ⟨0, 0, 0, X, Nat.zero_le _, rfl, rfl, rfl, SubSt.start (by omega), hS.out⟩
        case round =>
          obtain ⟨i, c, b, T, hi, rfl, rfl, rfl, hSu, hS⟩ := hrel
          by_cases hlt : i < n
          · obtain ⟨ij, eij⟩ : ∃ z, z = i + j := ⟨_, rfl⟩
            have hmn := HMN.out
            have hkn := HKN.out
            have hejn := EJN.out
            have hij := hS.out.cell ij (by omega)
            obtain ⟨cu, fu⟩ := hij
            have hbel := hS.out.2.2.1
            have cv1 := (hbel.cell (p := ⟨gV, i, none⟩) HVlt.out).trans (HVC.out i hlt)
            rw [hSu.out.up ij (by omega)] at cu
            have hx := dig_lt (B := 4294967296) (by omega) X ij
            have hv := dig_lt (B := 4294967296) (by omega) V i
            have hstep : ∀ lo hi y b', g * dig 4294967296 V i + c = hi * 4294967296 + lo → hi < 4294967296 → y < 4294967296 → b' ≤ 1 → y + lo + b = dig 4294967296 X (i + j) + b' * 4294967296 → SubSt 4294967296 V X g j (i + 1) (setDig 4294967296 T (i + j) y) b' hi := fun lo hi y b' h1 h2 h3 h4 h5 => hSu.out.step (by omega) hgB h1 h2 h3 h4 h5
            rw [← eij] at hstep
            obtain ⟨x, ex⟩ : ∃ x, x = dig 4294967296 X ij := ⟨_, rfl⟩
            obtain ⟨v, ev⟩ : ∃ x, x = dig 4294967296 V i := ⟨_, rfl⟩
            rw [← ex] at cu hx hstep
            rw [← ev] at cv1 hv hstep
            have hcB := hSu.out.hc
            have hbB := hSu.out.hb
            obtain ⟨M, pw, lo, hi2, z, d, Tz, s1, s2, s3, s4, s5, s6, s7, s8, a1, a2, a3, a4, a5, a6, a7⟩ := sub_words g v c b x hgB hv hcB hbB hx
            have HST := Lib.hid (hstep lo hi2 z d s1 s2 s3 s4 s5)
            have HNX := Lib.hid (hS.out.set ij z (by omega) s3)
            have w1 : (i : Int) + (j : Int) = (ij : Int) := by omega
            have w2 : (ij : Int) < (p : Int) + 1 := by omega
            have w3' : IntKind.i64.wrap (ij : Int) = (ij : Int) := by rw [IntKind.wrap_i64]; omega
            have w4 : IntKind.u64.wrap (v : Int) = (v : Int) := by rw [IntKind.wrap_u64]; omega
            have w5 : IntKind.u64.wrap (x : Int) = (x : Int) := by rw [IntKind.wrap_u64]; omega
            have w6 : (i : Int) < (n : Int) := by omega
            have w7 : (M : Int) + (c : Int) = (pw : Int) := by omega
            have w8 : (ij : Int) ≤ 4000 := by omega
            clear hstep hSu hS hbel ex ev eij s1 s5 s7 hmn hkn hejn
            go_wp2_with fail
            go_roundw
            case rel => exact ⟨i + 1, hi2, d, _, by omega, by go_num, rfl, rfl, HST.out, HNX.out⟩
            case measure => simp [intOf]; omega
          · obtain rfl : n = i := by omega
            have hmn := HMN.out
            have hkn := HKN.out
            have hejn := EJN.out
            obtain ⟨cu, fu⟩ := hS.out.cell jn (by omega)
            rw [hSu.out.up jn (by omega)] at cu
            have hx := dig_lt (B := 4294967296) (by omega) X jn
            have hend : ∀ y d, y < 4294967296 → d ≤ 1 → y + b + c = dig 4294967296 X (n + j) + d * 4294967296 → (d = 0 → g = dig 4294967296 (D / V) j ∧ setDig 4294967296 T (n + j) y = D % (V * 4294967296 ^ j)) ∧
    (d = 1 → g = dig 4294967296 (D / V) j + 1 ∧ setDig 4294967296 T (n + j) y + V * 4294967296 ^ j = D % (V * 4294967296 ^ j) + 4294967296 ^ (n + j + 1) ∧ (∀ k, n + j + 1 ≤ k → dig 4294967296 (setDig 4294967296 T (n + j) y) k = 0)) :=
              fun y d h1 h2 h3 => sub_end hV0 HVB.out HXL.out HQ1.out HQ2.out hSu.out (by rw [← HQE.out]; exact HGQ.out.1) (by rw [← HQE.out]; exact HGQ.out.2.1) h1 h2 h3
            rw [show n + j = jn by omega] at hend
            obtain ⟨x, ex⟩ : ∃ x, x = dig 4294967296 X jn := ⟨_, rfl⟩
            rw [← ex] at cu hx hend
            have hcB := hSu.out.hc
            have hbB := hSu.out.hb
            obtain ⟨z, d, Tz, s1, s2, s3, a1, a2, a3⟩ := sub_lastW c b x hcB hbB hx
            have HEND := Lib.hid (hend z d s1 s2 s3)
            have hnx := hS.out.set jn z (by omega) s1
            obtain ⟨cq, fq⟩ := hnx.qcell j (by omega)
            have HNX := Lib.hid hnx
            have w5 : IntKind.u64.wrap (x : Int) = (x : Int) := by rw [IntKind.wrap_u64]; omega
            have w6 : ¬ (n : Int) < (n : Int) := by omega
            have w7 : (j : Int) < (m : Int) := by omega
            have w8 : (0 : Int) ≤ (j : Int) := by omega
            have w9 : IntKind.i64.wrap (j : Int) = (j : Int) := by rw [IntKind.wrap_i64]; omega
            have w10 : (g : Int) % 4294967296 = (g : Int) := by omega
            clear hend hSu hS ex s3 hnx
            rcases (show d = 0 ∨ d = 1 by omega) with rfl | rfl
            · have hE := HEND.out.1 rfl
              have HE := Lib.hid hE
              clear hE HEND hmn hkn hejn
              go_wp2_with fail
              go_roundw
              case rel => exact ⟨j, by omega, rfl, HNX.out.qend HE.out.2 HE.out.1⟩
              case measure => simp [intOf]
            · have hE := HEND.out.2 rfl
              obtain ⟨Y, eY⟩ : ∃ Y, Y = setDig 4294967296 T jn z := ⟨_, rfl⟩
              rw [← eY] at hE HNX
              obtain ⟨g1, eg1⟩ : ∃ g1, g = g1 + 1 := ⟨g - 1, by have := hE.1; omega⟩
              have u7 : IntKind.u64.wrap ((g : Int) - 1) = (g1 : Int) := by rw [IntKind.wrap_u64]; omega
              have hg1B : g1 < 4294967296 := by omega
              have w11 : (g1 : Int) % 4294967296 = (g1 : Int) := by omega
              have hg1 : g1 = dig 4294967296 (D / V) j := by have := hE.1; omega
              have HG1 := Lib.hid hg1
              have HE := Lib.hid hE.2
              clear hE HEND hmn hkn hejn eY eg1 cq fq hg1 w10
              go_wp2_with fail
              generalize wr.setCell ⟨gU, jn, none⟩ (.int .u32 (z : Int)) = wy at HNX ⊢
              clear cu fu
              go_loopw [17, 209] (fun cv iv wr => ∃ i c T : Nat, i ≤ n ∧ iv = .int .i64 (i : Int) ∧ cv = .int .u64 (c : Int) ∧ Hid (AddSt 4294967296 V Y j i T c) ∧ Hid (DSt w3 wr gU (p + 1) cU gq m T (fun i => if j + 1 ≤ i then dig 4294967296 (D / V) i else 0))) (fun _ iv _ => n - (intOf iv).toNat)
              case atStart => exact ⟨0, 0, Y, Nat.zero_le _, rfl, rfl, AddSt.start, HNX.out⟩
              case round =>
                obtain ⟨i, c, T, hi, rfl, rfl, hAd, hS⟩ := hrel
                by_cases hlt : i < n
                · obtain ⟨ij, eij⟩ : ∃ z, z = i + j := ⟨_, rfl⟩
                  have hmn := HMN.out
                  have hkn := HKN.out
                  obtain ⟨cu, fu⟩ := hS.out.cell ij (by omega)
                  have hbel := hS.out.2.2.1
                  have cv1 := (hbel.cell (p := ⟨gV, i, none⟩) HVlt.out).trans (HVC.out i hlt)
                  rw [hAd.out.up ij (by omega)] at cu
                  have hu := dig_lt (B := 4294967296) (by omega) Y ij
                  have hv := dig_lt (B := 4294967296) (by omega) V i
                  have hstep : ∀ y d, y < 4294967296 → d ≤ 1 → c + (dig 4294967296 Y (i + j) + dig 4294967296 V i) = y + d * 4294967296 → AddSt 4294967296 V Y j (i + 1) (setDig 4294967296 T (i + j) y) d := fun y d h1 h2 h3 => hAd.out.step (by omega) h1 h2 h3
                  rw [← eij] at hstep
                  obtain ⟨u, eu⟩ : ∃ x, x = dig 4294967296 Y ij := ⟨_, rfl⟩
                  obtain ⟨v, ev⟩ : ∃ x, x = dig 4294967296 V i := ⟨_, rfl⟩
                  rw [← eu] at cu hu hstep
                  rw [← ev] at cv1 hv hstep
                  have hc1 := hAd.out.hc
                  obtain ⟨t, s, z, d, e1, e2, s1, s2, s3, s4, a1, a2, a3, a4⟩ := add_words c u v hc1 hu hv
                  have HST := Lib.hid (hstep z d s1 s2 s3)
                  have w1 : (i : Int) + (j : Int) = (ij : Int) := by omega
                  have w2 : (ij : Int) < (p : Int) + 1 := by omega
                  have w3' : IntKind.i64.wrap (ij : Int) = (ij : Int) := by rw [IntKind.wrap_i64]; omega
                  have w3i : IntKind.i64.wrap (i : Int) = (i : Int) := by rw [IntKind.wrap_i64]; omega
                  have w4 : IntKind.u64.wrap (v : Int) = (v : Int) := by rw [IntKind.wrap_u64]; omega
                  have w5 : IntKind.u64.wrap (u : Int) = (u : Int) := by rw [IntKind.wrap_u64]; omega
                  have w6 : (i : Int) < (n : Int) := by omega
                  have w8 : (ij : Int) ≤ 4000 := by omega
                  have w9 : IntKind.u64.wrap (t : Int) = (t : Int) := by rw [IntKind.wrap_u64]; omega
                  have w10 : IntKind.u64.wrap (s : Int) = (s : Int) := by rw [IntKind.wrap_u64]; omega
                  clear hstep hAd hbel eu ev eij s3 hmn hkn e1 e2
                  go_upto_region 38 with (fail)
                  go_quiet (fail)
                  have cu' : (wr.drewN nq).cell? ⟨gU, ij, none⟩ = some (.int .u32 (u : Int)) := cu
                  have fu' : (wr.drewN nq).frozen? ⟨gU, ij, none⟩ = false := fu
                  have hS2 := hS.out.drewN nq
                  have HNX2 := Lib.hid (hS2.set ij z (by have := HMN.out; have := HKN.out; omega) s1)
                  clear hS2 hS cu fu cv1
                  generalize wr.drewN nq = wq at cu' fu' HNX2 ⊢
                  go_wp2_with fail
                  go_roundw
                  case rel => exact ⟨i + 1, d, _, by omega, by go_num, rfl, HST.out, HNX2.out⟩
                  case measure => simp [intOf]; omega
                · obtain rfl : n = i := by omega
                  have hmn := HMN.out
                  have hkn := HKN.out
                  have hejn := EJN.out
                  obtain ⟨cu, fu⟩ := hS.out.cell jn (by omega)
                  rw [hAd.out.up jn (by omega)] at cu
                  have hlast : setDig 4294967296 T (n + j) ((dig 4294967296 Y (n + j) + c) % 4294967296) = D % (V * 4294967296 ^ j) :=
                    hAd.out.last (by omega) HVB.out (Nat.mod_lt _ (Nat.mul_pos hV0 (Nat.pow_pos (by omega)))) (by rw [show n + j = jn by omega]; exact HE.out.1) (by rw [show n + j = jn by omega]; exact HE.out.2)
                  rw [show n + j = jn by omega] at hlast
                  obtain ⟨x, ex⟩ : ∃ x, x = dig 4294967296 Y jn := ⟨_, rfl⟩
                  have hx := dig_lt (B := 4294967296) (by omega) Y jn
                  rw [← ex] at cu hlast hx
                  have hc1 := hAd.out.hc
                  obtain ⟨z, ez⟩ : ∃ z, z = (x + c) % 4294967296 := ⟨_, rfl⟩
                  rw [← ez] at hlast
                  have hnx := hS.out.set jn z (by omega) (by omega)
                  obtain ⟨cq, fq⟩ := hnx.qcell j (by omega)
                  have HNX2 := Lib.hid hnx
                  have HL := Lib.hid hlast
                  have v1 : (c : Int) % 4294967296 = (c : Int) := by omega
                  have v2 : IntKind.u32.wrap ((x : Int) + (c : Int)) = (z : Int) := by rw [IntKind.wrap_u32]; omega
                  have v3 : ((x : Int) + (c : Int)) % 4294967296 = (z : Int) := by omega
                  clear hlast hAd hS hnx ex ez hmn hkn hejn
                  go_wp2_with fail
                  go_simp
                  go_wp2_with fail
                  go_roundw
                  case rel => exact ⟨j, by omega, rfl, HNX2.out.qend HL.out HG1.out⟩
                  case measure => simp [intOf]
end
end Go.Proofs.YtkjlfjnncdkmlaaGreat
