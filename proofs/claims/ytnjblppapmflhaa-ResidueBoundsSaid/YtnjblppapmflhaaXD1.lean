/- Plain: long division by words: a guess of a word of the quotient; a multiple taken away word by word; the divisor added again. -/
import Derived.Test.YtnjblppapmflhaaWQ1
namespace Go.Proofs.Ytnjblppapmflhaa
set_option linter.all false
open Go.WideNum
theorem guess_ge {B V U n v1 top : Nat} (hv1 : v1 * B ^ (n + 1) ≤ V) (htop : top = U / B ^ (n + 1)) (hB : 0 < B) (h1 : 0 < v1) : U / V ≤ top / v1 := by
  refine (Nat.le_div_iff_mul_le h1).2 ?_
  rw [htop]
  refine (Nat.le_div_iff_mul_le (Nat.pow_pos hB)).2 ?_
  rw [Nat.mul_assoc]
  exact Nat.le_trans (Nat.mul_le_mul_left _ hv1) (Nat.div_mul_le_self U V)
/-- The test of two words: where it fails, the guess is too great. -/
theorem guess_gt {B V U n v1 v2 top u2 g : Nat} (hB : 0 < B) (hV : V / B ^ n = v1 * B + v2) (hU : U / B ^ n = top * B + u2) (hg : g * v1 ≤ top) (ht : (top - g * v1) * B + u2 < g * v2) : U / V < g := by
  rcases Nat.lt_or_ge (U / V) g with h | h
  · exact h
  · exfalso
    have hp : 0 < B ^ n := Nat.pow_pos hB
    have h1 : g * (V / B ^ n) ≤ U / B ^ n := by
      refine (Nat.le_div_iff_mul_le hp).2 ?_
      rw [Nat.mul_assoc]
      exact Nat.le_trans (Nat.mul_le_mul_left g (Nat.div_mul_le_self V _)) (Nat.le_trans (Nat.mul_le_mul_right V h) (Nat.div_mul_le_self U V))
    rw [hV, hU, Nat.mul_add, ← Nat.mul_assoc] at h1
    have h2 : (top - g * v1) * B + g * v1 * B = top * B := by rw [← Nat.add_mul]; congr 1; omega
    omega
/-- Where it holds, the guess is at most one too great. -/
theorem guess_le {B V U n v1 v2 top u2 g : Nat} (hB : 0 < B) (hV0 : 0 < V) (hV : V / B ^ n = v1 * B + v2) (hU : U / B ^ n = top * B + u2) (h1 : 0 < v1) (hgB : g < B) (hg : g * v1 ≤ top) (ht : g * v2 ≤ (top - g * v1) * B + u2) : g ≤ U / V + 1 := by
  rcases Nat.lt_or_ge (U / V + 1) g with h | h
  · exfalso
    have h0 : 0 < g := Nat.lt_of_le_of_lt (Nat.zero_le _) h
    obtain ⟨f, rfl⟩ : ∃ f, g = f + 1 := ⟨g - 1, by omega⟩
    have hp : 0 < B ^ n := Nat.pow_pos hB
    have h2 : (f + 1) * (V / B ^ n) ≤ U / B ^ n := by
      rw [hV, hU, Nat.mul_add, ← Nat.mul_assoc]
      have h2 : (top - (f + 1) * v1) * B + (f + 1) * v1 * B = top * B := by rw [← Nat.add_mul]; congr 1; omega
      omega
    have h3 : U < (U / V + 1) * V := by
      have h4 := Nat.mod_add_div U V
      have h5 := Nat.mod_lt U hV0
      rw [Nat.add_mul, Nat.one_mul, Nat.mul_comm]
      omega
    have h4 : (U / V + 1) * V ≤ f * V := Nat.mul_le_mul_right V (by omega)
    have h5 : V < (V / B ^ n + 1) * B ^ n := by
      have h4 := Nat.mod_add_div V (B ^ n)
      have h5 := Nat.mod_lt V hp
      rw [Nat.add_mul, Nat.one_mul, Nat.mul_comm]
      omega
    have h6 : U / B ^ n * B ^ n ≤ U := Nat.div_mul_le_self _ _
    obtain ⟨D, hD⟩ : ∃ D, D = V / B ^ n := ⟨_, rfl⟩
    obtain ⟨P, hP⟩ : ∃ P, P = B ^ n := ⟨_, rfl⟩
    rw [← hD] at h2 h5 hV
    rw [← hP] at h2 h5 h6 hp
    have hDB : B ≤ D := by
      rw [hV]
      have : 1 * B ≤ v1 * B := Nat.mul_le_mul_right B h1
      omega
    have h7 : f * V ≤ f * ((D + 1) * P) := Nat.mul_le_mul_left f (Nat.le_of_lt h5)
    have h8 : (f + 1) * D * P ≤ U / P * P := Nat.mul_le_mul_right P h2
    have h9 : (f + 1) * D * P < f * ((D + 1) * P) := by omega
    rw [← Nat.mul_assoc] at h9
    have h10 := Nat.lt_of_mul_lt_mul_right h9
    rw [Nat.add_mul, Nat.mul_add] at h10
    omega
  · exact h
/-- Where the rest is great, the test is passed. -/
theorem guess_rest {B v1 v2 top u2 g : Nat} (h1 : 0 < v1) (hv2 : v2 < B) (htop : top < (v1 + 1) * B) (hg : g * v1 ≤ top) (hr : B ≤ top - g * v1) : g < B ∧ g * v2 ≤ (top - g * v1) * B + u2 := by
  have hgB : g < B := by
    rcases Nat.lt_or_ge g B with h | h
    · exact h
    · exfalso
      have h2 : B * v1 ≤ g * v1 := Nat.mul_le_mul_right v1 h
      rw [Nat.add_mul, Nat.one_mul, Nat.mul_comm v1] at htop
      omega
  refine ⟨hgB, ?_⟩
  have h2 : g * v2 ≤ B * B := Nat.mul_le_mul (Nat.le_of_lt hgB) (Nat.le_of_lt hv2)
  have h3 : B * B ≤ (top - g * v1) * B := Nat.mul_le_mul_right B hr
  omega
/-- A number with another word at one place. -/
def setDig (B T k y : Nat) : Nat := T - dig B T k * B ^ k + y * B ^ k
theorem dig_part (B T k : Nat) : dig B T k * B ^ k ≤ T := by
  have h := Nat.mod_mul_right_div_self T (B ^ k) B
  have h2 : dig B T k = T % (B ^ k * B) / B ^ k := h.symm
  rw [h2]
  exact Nat.le_trans (Nat.div_mul_le_self _ _) (Nat.mod_le _ _)
theorem setDig_eq (B T k y : Nat) : setDig B T k y + dig B T k * B ^ k = T + y * B ^ k := by
  have := dig_part B T k
  unfold setDig
  omega
theorem split3 {B : Nat} (hB : 0 < B) (T k : Nat) : T = T % B ^ k + dig B T k * B ^ k + T / B ^ (k + 1) * B ^ (k + 1) := by
  have h1 := Nat.mod_add_div T (B ^ (k + 1))
  have h2 := mod_pow_succ B T k
  rw [h2, Nat.mul_comm (B ^ k), Nat.mul_comm (B ^ (k + 1))] at h1
  exact h1.symm
theorem setDig_split {B : Nat} (hB : 0 < B) (T k y : Nat) : setDig B T k y = T % B ^ k + y * B ^ k + T / B ^ (k + 1) * B ^ (k + 1) := by
  have h1 := split3 hB T k
  have h2 := setDig_eq B T k y
  omega
theorem three_low {B : Nat} (hB : 0 < B) (l y h k : Nat) (hl : l < B ^ k) (hy : y < B) : (l + y * B ^ k + h * B ^ (k + 1)) % B ^ k = l ∧ (l + y * B ^ k + h * B ^ (k + 1)) / B ^ k = y + h * B := by
  have hp : 0 < B ^ k := Nat.pow_pos hB
  have e : l + y * B ^ k + h * B ^ (k + 1) = l + B ^ k * (y + h * B) := by
    have e1 : h * (B ^ k * B) = B ^ k * (h * B) := by rw [← Nat.mul_assoc, Nat.mul_comm h (B ^ k), Nat.mul_assoc]
    rw [Nat.pow_succ, Nat.mul_add, e1, Nat.mul_comm y]
    omega
  rw [e]
  exact ⟨by rw [Nat.add_mul_mod_self_left, Nat.mod_eq_of_lt hl], by rw [Nat.add_mul_div_left _ _ hp, Nat.div_eq_of_lt hl, Nat.zero_add]⟩
theorem dig_setDig {B : Nat} (hB : 0 < B) (T k y : Nat) (hy : y < B) (i : Nat) : dig B (setDig B T k y) i = if i = k then y else dig B T i := by
  have hp : 0 < B ^ k := Nat.pow_pos hB
  have hl := Nat.mod_lt T hp
  have hd := dig_lt hB T k
  have e1 := setDig_split hB T k y
  have e2 := split3 hB T k
  obtain ⟨a1, a2⟩ := three_low hB (T % B ^ k) y (T / B ^ (k + 1)) k hl hy
  obtain ⟨b1, b2⟩ := three_low hB (T % B ^ k) (dig B T k) (T / B ^ (k + 1)) k hl hd
  rw [← e1] at a1 a2
  rw [← e2] at b2
  rcases Nat.lt_trichotomy i k with h | h | h
  · rw [if_neg (by omega)]
    have e3 : ∀ Z, dig B Z i = dig B (Z % B ^ k) i := by
      intro Z
      unfold dig
      obtain ⟨d, rfl⟩ : ∃ d, k = i + 1 + d := ⟨k - i - 1, by omega⟩
      rw [Nat.pow_add, Nat.pow_succ, Nat.mul_assoc, Nat.mod_mul_right_div_self, Nat.mod_mul_right_mod]
    rw [e3, e3 T, a1]
  · subst h
    rw [if_pos rfl]
    unfold dig
    rw [a2, Nat.add_mul_mod_self_right, Nat.mod_eq_of_lt hy]
  · rw [if_neg (by omega)]
    obtain ⟨d, rfl⟩ : ∃ d, i = k + 1 + d := ⟨i - k - 1, by omega⟩
    have e3 : ∀ Z, dig B Z (k + 1 + d) = Z / B ^ k / B / B ^ d % B := by
      intro Z
      unfold dig
      rw [Nat.pow_add, Nat.pow_succ, Nat.div_div_eq_div_mul, Nat.div_div_eq_div_mul, Nat.mul_assoc]
    rw [e3, e3 T, a2, b2, Nat.add_mul_div_right _ _ hB, Nat.add_mul_div_right _ _ hB, Nat.div_eq_of_lt hy, Nat.div_eq_of_lt hd]
theorem lt_of_digs {B : Nat} (hB : 1 < B) (T K : Nat) (h : ∀ k, K ≤ k → dig B T k = 0) : T < B ^ K := by
  have h1 := words_length (B := B) hB T T (Nat.lt_pow_self hB)
  rcases Nat.lt_or_ge T (B ^ K) with h2 | h2
  · exact h2
  · exfalso
    have h3 := words_lenlt hB T K h2
    obtain ⟨m, hm⟩ : ∃ m, (words B T).length = m + 1 := ⟨(words B T).length - 1, by omega⟩
    have h4 := words_trimmed hB T T (Nat.le_refl _)
    have h5 : (words B T).getLast? = some (dig B T m) := by
      rw [List.getLast?_eq_getElem?, hm, Nat.add_sub_cancel]
      exact words_getE hB T m (by omega)
    exact h4 _ h5 (h m (by omega))
/-- A multiple is taken away, word by word. -/
structure SubSt (B V X g j i T b c : Nat) : Prop where
  eq : T + g * (V % B ^ i) * B ^ j = X + (b + c) * B ^ (i + j)
  up : ∀ k, i + j ≤ k → dig B T k = dig B X k
  hb : b ≤ 1
  hc : c < B
theorem SubSt.start {B V X g j : Nat} (hB : 1 < B) : SubSt B V X g j 0 X 0 0 := ⟨by simp [Nat.mod_one], fun _ _ => rfl, by omega, by omega⟩
theorem SubSt.step {B V X g j i T b c lo hi y b' : Nat} (hB : 1 < B) (h : SubSt B V X g j i T b c) (hg : g < B) (hp : g * dig B V i + c = hi * B + lo) (hhi : hi < B) (hy : y < B) (hb' : b' ≤ 1) (hst : y + lo + b = dig B X (i + j) + b' * B) :
    SubSt B V X g j (i + 1) (setDig B T (i + j) y) b' hi := by
  have e1 := setDig_eq B T (i + j) y
  have hu := h.up (i + j) (Nat.le_refl _)
  rw [hu] at e1
  refine ⟨?_, fun k hk => ?_, hb', hhi⟩
  · have e2 := h.eq
    rw [mod_pow_succ, Nat.mul_add, Nat.add_mul, show i + 1 + j = (i + j) + 1 by omega, Nat.pow_succ]
    obtain ⟨P, hP⟩ : ∃ P, P = B ^ (i + j) := ⟨_, rfl⟩
    have e3 : g * (B ^ i * dig B V i) * B ^ j = g * dig B V i * P := by
      rw [hP, Nat.pow_add]; simp only [Nat.mul_assoc, Nat.mul_comm, Nat.mul_left_comm]
    rw [e3]
    rw [← hP] at e1 e2 ⊢
    generalize g * (V % B ^ i) * B ^ j = F at *
    generalize dig B X (i + j) = x at *
    obtain ⟨q, hq⟩ : ∃ q, q = g * dig B V i := ⟨_, rfl⟩
    rw [← hq] at hp ⊢
    have e4 : (y + lo + b) * P = (x + b' * B) * P := by rw [hst]
    have e5 : (q + c) * P = (hi * B + lo) * P := by rw [hp]
    simp only [Nat.add_mul] at e1 e2 e4 e5 ⊢
    rw [show b' * (P * B) = b' * B * P by rw [Nat.mul_assoc, Nat.mul_comm P], show hi * (P * B) = hi * B * P by rw [Nat.mul_assoc, Nat.mul_comm P]]
    omega
  · rw [dig_setDig (by omega) T (i + j) y hy, if_neg (by omega)]
    exact h.up k (by omega)
/-- The last word: whether the multiple was too great. -/
theorem SubSt.last {B V X g j n T b c y b' : Nat} (hB : 1 < B) (h : SubSt B V X g j n T b c) (hV : V < B ^ n) (hV0 : 0 < V) (hX : X < V * B ^ (j + 1)) (hq : X / B ^ j / V ≤ g) (hq2 : g ≤ X / B ^ j / V + 1) (hy : y < B) (hb' : b' ≤ 1) (hst : y + b + c = dig B X (n + j) + b' * B) :
    (b' = 0 ∧ g = X / B ^ j / V ∧ setDig B T (n + j) y = X - X / B ^ j / V * V * B ^ j) ∨
    (b' = 1 ∧ g = X / B ^ j / V + 1 ∧ setDig B T (n + j) y + g * V * B ^ j = X + B ^ (n + j + 1) ∧ (∀ k, n + j + 1 ≤ k → dig B (setDig B T (n + j) y) k = 0)) := by
  have e1 := setDig_eq B T (n + j) y
  rw [h.up (n + j) (Nat.le_refl _)] at e1
  have e2 := h.eq
  rw [Nat.mod_eq_of_lt hV] at e2
  have hXlt : X < B ^ (n + j + 1) := by
    refine Nat.lt_of_lt_of_le hX ?_
    rw [show n + j + 1 = n + (j + 1) by omega, Nat.pow_add B n (j + 1)]
    exact Nat.mul_le_mul_right _ (Nat.le_of_lt hV)
  have hup : ∀ k, n + j + 1 ≤ k → dig B (setDig B T (n + j) y) k = 0 := fun k hk => by
    rw [dig_setDig (by omega) T (n + j) y hy, if_neg (by omega), h.up k (by omega)]
    exact dig_high hB X k (Nat.lt_of_lt_of_le hXlt (Nat.pow_le_pow_right (by omega) hk))
  have hTlt := lt_of_digs hB _ _ hup
  have e3 : setDig B T (n + j) y + g * V * B ^ j = X + b' * B ^ (n + j + 1) := by
    rw [Nat.pow_succ]
    generalize B ^ (n + j) = P at *
    generalize dig B X (n + j) = x at *
    generalize g * V * B ^ j = F at *
    have e4 : (y + b + c) * P = (x + b' * B) * P := by rw [hst]
    simp only [Nat.add_mul] at e1 e2 e4 ⊢
    rw [show b' * (P * B) = b' * B * P by rw [Nat.mul_assoc, Nat.mul_comm P]]
    omega
  have hj : 0 < B ^ j := Nat.pow_pos (by omega)
  have hqX : X / B ^ j / V * V * B ^ j ≤ X := Nat.le_trans (Nat.mul_le_mul_right _ (Nat.div_mul_le_self _ _)) (Nat.div_mul_le_self _ _)
  have hqX2 : X < (X / B ^ j / V + 1) * V * B ^ j := by
    have h1 := Nat.mod_add_div (X / B ^ j) V
    have h2 := Nat.mod_lt (X / B ^ j) hV0
    have h3 : X / B ^ j + 1 ≤ (X / B ^ j / V + 1) * V := by rw [Nat.add_mul, Nat.one_mul, Nat.mul_comm]; omega
    have h4 : (X / B ^ j + 1) * B ^ j ≤ (X / B ^ j / V + 1) * V * B ^ j := Nat.mul_le_mul_right _ h3
    have h5 := Nat.mod_add_div X (B ^ j)
    have h6 := Nat.mod_lt X hj
    rw [Nat.add_mul, Nat.one_mul, Nat.mul_comm (X / B ^ j)] at h4
    omega
  obtain ⟨q, hqq⟩ : ∃ q, q = X / B ^ j / V := ⟨_, rfl⟩
  rw [← hqq] at hq hq2 hqX hqX2 ⊢
  rcases (show b' = 0 ∨ b' = 1 by omega) with rfl | rfl
  · left
    have hgq : g = q := by
      rcases (show g = q ∨ g = q + 1 by omega) with h | h
      · exact h
      · rw [h] at e3; omega
    subst hgq
    exact ⟨rfl, rfl, by omega⟩
  · right
    rw [Nat.one_mul] at e3
    have hgq : g = q + 1 := by
      rcases (show g = q ∨ g = q + 1 by omega) with h | h
      · rw [h] at e3; omega
      · exact h
    exact ⟨rfl, hgq, e3, hup⟩
/-- The divisor is added again. -/
structure AddSt (B V Y j i T c : Nat) : Prop where
  eq : T + c * B ^ (i + j) = Y + V % B ^ i * B ^ j
  up : ∀ k, i + j ≤ k → dig B T k = dig B Y k
  hc : c ≤ 1
theorem AddSt.start {B V Y j : Nat} : AddSt B V Y j 0 Y 0 := ⟨by simp [Nat.mod_one], fun _ _ => rfl, by omega⟩
theorem AddSt.step {B V Y j i T c y c' : Nat} (hB : 1 < B) (h : AddSt B V Y j i T c) (hy : y < B) (hc' : c' ≤ 1) (hst : c + (dig B Y (i + j) + dig B V i) = y + c' * B) : AddSt B V Y j (i + 1) (setDig B T (i + j) y) c' := by
  have e1 := setDig_eq B T (i + j) y
  rw [h.up (i + j) (Nat.le_refl _)] at e1
  refine ⟨?_, fun k hk => ?_, hc'⟩
  · have e2 := h.eq
    rw [mod_pow_succ, Nat.add_mul, show i + 1 + j = (i + j) + 1 by omega, Nat.pow_succ]
    obtain ⟨P, hP⟩ : ∃ P, P = B ^ (i + j) := ⟨_, rfl⟩
    have e3 : B ^ i * dig B V i * B ^ j = dig B V i * P := by
      rw [hP, Nat.pow_add]; simp only [Nat.mul_assoc, Nat.mul_comm, Nat.mul_left_comm]
    rw [e3]
    rw [← hP] at e1 e2 ⊢
    generalize V % B ^ i * B ^ j = F at *
    generalize dig B Y (i + j) = x at *
    generalize dig B V i = v at *
    have e4 : (c + (x + v)) * P = (y + c' * B) * P := by rw [hst]
    simp only [Nat.add_mul] at e1 e2 e4 ⊢
    rw [show c' * (P * B) = c' * B * P by rw [Nat.mul_assoc, Nat.mul_comm P]]
    omega
  · rw [dig_setDig (by omega) T (i + j) y hy, if_neg (by omega)]
    exact h.up k (by omega)
theorem AddSt.last {B V Y R j n T c : Nat} (hB : 1 < B) (h : AddSt B V Y j n T c) (hV : V < B ^ n) (hR : R < V * B ^ j) (hY : Y + V * B ^ j = R + B ^ (n + j + 1)) (hup : ∀ k, n + j + 1 ≤ k → dig B Y k = 0) :
    setDig B T (n + j) ((dig B Y (n + j) + c) % B) = R := by
  have e2 := h.eq
  rw [Nat.mod_eq_of_lt hV] at e2
  have hp : 0 < B ^ (n + j) := Nat.pow_pos (by omega)
  have hRlt : R < B ^ (n + j) := by
    refine Nat.lt_of_lt_of_le hR ?_
    rw [Nat.pow_add]
    exact Nat.mul_le_mul_right _ (Nat.le_of_lt hV)
  have hT := split3 (B := B) (by omega) T (n + j)
  have hTlt := lt_of_digs hB T (n + j + 1) (fun k hk => by rw [h.up k (by omega), hup k hk])
  rw [Nat.div_eq_of_lt hTlt, Nat.zero_mul, Nat.add_zero] at hT
  have hl := Nat.mod_lt T hp
  have hx := h.up (n + j) (Nat.le_refl _)
  have hsd := setDig_split (B := B) (by omega) T (n + j) ((dig B Y (n + j) + c) % B)
  rw [Nat.div_eq_of_lt hTlt, Nat.zero_mul, Nat.add_zero] at hsd
  rw [hsd]
  rw [hx] at hT
  obtain ⟨x, ex⟩ : ∃ x, x = dig B Y (n + j) := ⟨_, rfl⟩
  obtain ⟨l, el⟩ : ∃ l, l = T % B ^ (n + j) := ⟨_, rfl⟩
  rw [← ex] at hT ⊢
  rw [← el] at hT hl ⊢
  rw [Nat.pow_succ] at hY
  generalize B ^ (n + j) = P at *
  have h1 : l + (x + c) * P = R + B * P := by
    rw [Nat.add_mul, Nat.mul_comm B]
    omega
  have h2 : (l + (x + c) * P) / P = (R + B * P) / P := by rw [h1]
  rw [Nat.add_mul_div_right _ _ hp, Nat.add_mul_div_right _ _ hp, Nat.div_eq_of_lt hl, Nat.div_eq_of_lt hRlt] at h2
  have h3 : x + c = B := by omega
  rw [h3] at h1 ⊢
  rw [Nat.mod_self, Nat.zero_mul]
  omega
/-- A word of the quotient, by value. -/
theorem quot_word {B A V j : Nat} (hB : 0 < B) (hV0 : 0 < V) : A % (V * B ^ (j + 1)) / B ^ j / V = dig B (A / V) j ∧ A % (V * B ^ (j + 1)) - A % (V * B ^ (j + 1)) / B ^ j / V * V * B ^ j = A % (V * B ^ j) := by
  obtain ⟨X, hX⟩ : ∃ X, X = A % (V * B ^ (j + 1)) := ⟨_, rfl⟩
  have h1 : X / B ^ j / V = X / (V * B ^ j) := by rw [Nat.div_div_eq_div_mul, Nat.mul_comm]
  have h2 : V * B ^ (j + 1) = V * B ^ j * B := by rw [Nat.pow_succ, Nat.mul_assoc]
  rw [← hX, h1]
  have h3 : X / (V * B ^ j) = dig B (A / V) j := by
    rw [hX, h2, Nat.mod_mul_right_div_self]
    unfold dig
    rw [Nat.div_div_eq_div_mul]
  refine ⟨h3, ?_⟩
  have h4 : X % (V * B ^ j) = A % (V * B ^ j) := by rw [hX, h2, Nat.mod_mul_right_mod]
  have h5 := Nat.mod_add_div X (V * B ^ j)
  rw [Nat.mul_assoc, ← h4]
  rw [Nat.mul_comm (V * B ^ j)] at h5
  omega
end Go.Proofs.Ytnjblppapmflhaa
