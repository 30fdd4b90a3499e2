/- Wide integers: helpers and walks, in one text (PN1 PN2 PN3). -/

/- Plain: primes, orders, Fermat's theorem. -/
set_option linter.all false
set_option maxRecDepth 100000
set_option maxHeartbeats 40000000
namespace Go.Proofs.YtkjlfjnncdkmlaaGreat.PN

def Pr (p : Nat) : Prop := 2 ≤ p ∧ ∀ d, d ∣ p → d = 1 ∨ d = p
theorem Pr.pos {p : Nat} (h : Pr p) : 0 < p := Nat.lt_of_lt_of_le (by omega) h.1
theorem Pr.cop {p : Nat} (h : Pr p) {a : Nat} (ha : ¬ p ∣ a) : Nat.Coprime p a := by
 rcases h.2 (Nat.gcd p a) (Nat.gcd_dvd_left p a) with h1 | h1
 ·exact h1
 ·exact absurd (h1 ▸ Nat.gcd_dvd_right p a) ha
theorem Pr.dvd_mul {p : Nat} (h : Pr p) {a b : Nat} (hd : p ∣ a * b) : p ∣ a ∨ p ∣ b := by
 by_cases ha : p ∣ a
 ·exact Or.inl ha
 ·exact Or.inr ((h.cop ha).dvd_of_dvd_mul_left hd)
theorem Pr.dvd_pow {p : Nat} (h : Pr p) {a : Nat} : ∀ {e : Nat}, p ∣ a ^ e → p ∣ a
 | 0, hd => by
  rw [Nat.pow_zero] at hd
  have := Nat.le_of_dvd (by omega) hd
  have := h.1
  omega
 | e + 1, hd => by
  rw [Nat.pow_succ] at hd
  rcases h.dvd_mul hd with h1 | h1
  ·exact h.dvd_pow h1
  ·exact h1
theorem Pr.eq_of_dvd {p q : Nat} (hp : Pr p) (hq : Pr q) (h : p ∣ q) : p = q := by
 rcases hq.2 p h with h1 | h1
 ·have := hp.1; omega
 ·exact h1
theorem prime_of {n : Nat} : ∀ (m : Nat), m ≤ n → 2 ≤ m → ∃ p, Pr p ∧ p ∣ m := by
 induction n with
 | zero => intro m h1 h2; omega
 | succ n ih =>
  intro m h1 h2
  by_cases hp : Pr m
  ·exact ⟨m, hp, Nat.dvd_refl m⟩
  ·have : ∃ d, d ∣ m ∧ d ≠ 1 ∧ d ≠ m := by
    refine Classical.byContradiction fun hno => hp ⟨h2, fun d hd => ?_⟩
    rcases Classical.em (d = 1) with h3 | h3
    ·exact Or.inl h3
    ·rcases Classical.em (d = m) with h4 | h4
     ·exact Or.inr h4
     ·exact absurd ⟨d, hd, h3, h4⟩ hno
   obtain ⟨d, hd, h3, h4⟩ := this
   have h5 := Nat.le_of_dvd (by omega) hd
   have h6 : d ≠ 0 := fun h => by subst h; rw [Nat.zero_dvd] at hd; omega
   obtain ⟨p, hp, hpd⟩ := ih d (by omega) (by omega)
   exact ⟨p, hp, Nat.dvd_trans hpd hd⟩
theorem exists_prime {n : Nat} (h : 2 ≤ n) : ∃ p, Pr p ∧ p ∣ n := prime_of n (Nat.le_refl n) h
theorem largest_of (n : Nat) (hn : 2 ≤ n) : ∀ (k q : Nat), Pr q → q ∣ n → n - q ≤ k → ∃ p, Pr p ∧ p ∣ n ∧ ∀ r, Pr r → r ∣ n → r ≤ p
 | 0, q, hq, hd, hk => ⟨q, hq, hd, fun r _ hr => by have := Nat.le_of_dvd (by omega) hr; omega⟩
 | k + 1, q, hq, hd, hk => by
  rcases Classical.em (∃ r, Pr r ∧ r ∣ n ∧ q < r) with ⟨r, hr, hrd, hlt⟩ | hno
  ·have := Nat.le_of_dvd (by omega) hrd
   exact largest_of n hn k r hr hrd (by omega)
  ·exact ⟨q, hq, hd, fun r hr hrd => by
    rcases Nat.lt_or_ge q r with h | h
    ·exact absurd ⟨r, hr, hrd, h⟩ hno
    ·exact h⟩
theorem exists_largest {n : Nat} (h : 2 ≤ n) : ∃ p, Pr p ∧ p ∣ n ∧ ∀ r, Pr r → r ∣ n → r ≤ p := by
 obtain ⟨q, hq, hd⟩ := exists_prime h
 exact largest_of n h _ q hq hd (Nat.le_refl _)
/-- A power that is one. -/
def One (m a e : Nat) : Prop := a ^ e % m = 1
theorem One.mul {m a e : Nat} (hm : 2 ≤ m) (h : One m a e) (k : Nat) : One m a (e * k) := by
 unfold One at *
 rw [Nat.pow_mul, Nat.pow_mod, h, Nat.one_pow, Nat.mod_eq_of_lt (by omega)]
theorem One.of_dvd {m a e f : Nat} (hm : 2 ≤ m) (h : One m a e) (hd : e ∣ f) : One m a f := by
 obtain ⟨k, rfl⟩ := hd
 exact h.mul hm k
theorem One.sub {m a e f : Nat} (hm : 2 ≤ m) (h : One m a e) (h2 : One m a (e + f)) : One m a f := by
 unfold One at *
 rw [Nat.pow_add, Nat.mul_mod, h, Nat.one_mul, Nat.mod_mod] at h2
 exact h2
theorem One.mod {m a e f : Nat} (hm : 2 ≤ m) (h : One m a e) (h2 : One m a f) : One m a (f % e) := by
 refine (h.mul hm (f / e)).sub hm ?_
 rwa [Nat.div_add_mod]
theorem One.gcd {m a : Nat} (hm : 2 ≤ m) : ∀ (e f : Nat), One m a e → One m a f → One m a (Nat.gcd e f) := by
 intro e f
 induction e, f using Nat.gcd.induction with
 | H0 n => intro _ h; rwa [Nat.gcd_zero_left]
 | H1 e f he ih =>
  intro h1 h2
  rw [Nat.gcd_rec]
  exact ih (h1.mod hm h2) h1
/-- One, modulo a divisor. -/
theorem One.dvd {m n a e : Nat} (hm : 2 ≤ m) (hd : m ∣ n) (h : One n a e) : One m a e := by
  unfold One at *
  rw [← Nat.mod_mod_of_dvd _ hd, h, Nat.mod_eq_of_lt (by omega)]
/-- The order of some bases together: what every exponent is a multiple of. -/
theorem ord_dvd {m L e : Nat} {B : List Nat} (hm : 2 ≤ m) (hL0 : 0 < L) (hL : ∀ a ∈ B, One m a L) (hr : ∀ r, Pr r → r ∣ L → ∃ a ∈ B, ¬ One m a (L / r)) (he : ∀ a ∈ B, One m a e) : L ∣ e := by
  obtain ⟨g, hg⟩ : ∃ g, g = Nat.gcd e L := ⟨_, rfl⟩
  have h1 : g ∣ L := by rw [hg]; exact Nat.gcd_dvd_right e L
  have h2 : g ∣ e := by rw [hg]; exact Nat.gcd_dvd_left e L
  obtain ⟨t, ht⟩ := h1
  rcases (show t = 0 ∨ t = 1 ∨ 2 ≤ t by omega) with rfl | rfl | h3
  · omega
  · rw [ht, Nat.mul_one]; exact h2
  · exfalso
    obtain ⟨r, hrp, s, hs⟩ := exists_prime h3
    have h4 : L = r * (g * s) := by rw [ht, hs, Nat.mul_left_comm]
    obtain ⟨a, ha, hno⟩ := hr r hrp ⟨_, h4⟩
    refine hno ?_
    rw [h4, Nat.mul_div_cancel_left _ hrp.pos]
    have h5 := One.gcd hm e L (he a ha) (hL a ha)
    rw [← hg] at h5
    exact h5.mul hm s
/-- Binomial coefficients. -/
def ch : Nat → Nat → Nat
  | _, 0 => 1
  | 0, _ + 1 => 0
  | n + 1, k + 1 => ch n k + ch n (k + 1)
theorem ch_zero (n : Nat) : ch n 0 = 1 := by cases n <;> rfl
theorem ch_succ (n k : Nat) : ch (n + 1) (k + 1) = ch n k + ch n (k + 1) := rfl
theorem ch_high : ∀ (n k : Nat), n < k → ch n k = 0
 | n, 0, h => by omega
 | 0, k + 1, _ => rfl
 | n + 1, k + 1, h => by rw [ch_succ, ch_high n k (by omega), ch_high n (k + 1) (by omega)]
theorem ch_self : ∀ (n : Nat), ch n n = 1
 | 0 => rfl
 | n + 1 => by rw [ch_succ, ch_self n, ch_high n (n + 1) (by omega)]
theorem ch_mul : ∀ (n k : Nat), (k + 1) * ch (n + 1) (k + 1) = (n + 1) * ch n k
 | 0, 0 => rfl
 | 0, k + 1 => by rw [ch_succ, ch_high 0 (k + 1) (by omega), ch_high 0 (k + 1 + 1) (by omega)]; simp
 | n + 1, 0 => by
  have h := ch_mul n 0
  have e1 := ch_succ (n + 1) 0
  rw [ch_zero] at h e1
  rw [ch_zero, e1]
  omega
 | n + 1, k + 1 => by
  have h1 := ch_mul n k
  have h2 := ch_mul n (k + 1)
  have h3 := ch_succ n k
  have h4 := ch_succ n (k + 1)
  rw [ch_succ (n + 1) (k + 1)]
  rw [Nat.mul_add, show (k + 1 + 1) * ch (n + 1) (k + 1) = (k + 1) * ch (n + 1) (k + 1) + ch (n + 1) (k + 1) by rw [Nat.add_mul, Nat.one_mul], h1, h2, h3]
  simp only [Nat.add_mul, Nat.mul_add, Nat.one_mul]
  omega
/-- The first terms of a power of a + 1. -/
def rowS (n a : Nat) : Nat → Nat
  | 0 => 0
  | k + 1 => rowS n a k + ch n k * a ^ k
theorem rowS_succ (n a : Nat) : ∀ k, rowS (n + 1) a (k + 1) = a * rowS n a k + rowS n a (k + 1)
 | 0 => by simp [rowS, ch_zero]
 | k + 1 => by
  have h := rowS_succ n a k
  have e1 : rowS (n + 1) a (k + 1 + 1) = rowS (n + 1) a (k + 1) + ch (n + 1) (k + 1) * a ^ (k + 1) := rfl
  have e2 : rowS n a (k + 1 + 1) = rowS n a (k + 1) + ch n (k + 1) * a ^ (k + 1) := rfl
  have e3 : rowS n a (k + 1) = rowS n a k + ch n k * a ^ k := rfl
  have e4 : a * (ch n k * a ^ k) = ch n k * a ^ (k + 1) := by rw [Nat.pow_succ, Nat.mul_left_comm, Nat.mul_comm a]
  rw [e1, h, e2, ch_succ, Nat.add_mul]
  rw [e3, Nat.mul_add, e4]
  omega
theorem binom (a : Nat) : ∀ n, (a + 1) ^ n = rowS n a (n + 1)
 | 0 => by simp [rowS, ch_zero]
 | n + 1 => by
  have h := rowS_succ n a (n + 1)
  have e : rowS n a (n + 1 + 1) = rowS n a (n + 1) + ch n (n + 1) * a ^ (n + 1) := rfl
  rw [h, e, ch_high n (n + 1) (by omega), Nat.pow_succ, binom a n, Nat.mul_add, Nat.mul_one, Nat.zero_mul, Nat.mul_comm a]
  omega
theorem Pr.ch_dvd {p : Nat} (hp : Pr p) {k : Nat} (h0 : 0 < k) (hk : k < p) : p ∣ ch p k := by
 obtain ⟨j, rfl⟩ : ∃ j, k = j + 1 := ⟨k - 1, by omega⟩
 obtain ⟨n, rfl⟩ : ∃ n, p = n + 1 := ⟨p - 1, by omega⟩
 have h := ch_mul n j
 rcases hp.dvd_mul (show n + 1 ∣ (j + 1) * ch (n + 1) (j + 1) from ⟨_, h⟩) with h1 | h1
 ·have := Nat.le_of_dvd (by omega) h1; omega
 ·exact h1
theorem Pr.rowS_mod {p : Nat} (hp : Pr p) (a : Nat) : ∀ k, k + 1 ≤ p → rowS p a (k + 1) % p = 1
 | 0, _ => by
  have := hp.1
  have e : rowS p a (0 + 1) = 1 := by simp [rowS, ch_zero]
  rw [e, Nat.mod_eq_of_lt (by omega)]
 | k + 1, h => by
  have e : rowS p a (k + 1 + 1) = rowS p a (k + 1) + ch p (k + 1) * a ^ (k + 1) := rfl
  obtain ⟨t, ht⟩ := hp.ch_dvd (show 0 < k + 1 by omega) (by omega)
  rw [e, ht, Nat.mul_assoc, Nat.add_mul_mod_self_left]
  exact hp.rowS_mod a k (by omega)
theorem fermat {p : Nat} (hp : Pr p) : ∀ a, a ^ p % p = a % p
 | 0 => by rw [Nat.zero_pow hp.pos]
 | a + 1 => by
  have h1 := fermat hp a
  obtain ⟨n, hn⟩ : ∃ n, p = n + 1 := ⟨p - 1, by have := hp.1; omega⟩
  have e : rowS p a (p + 1) = rowS p a p + ch p p * a ^ p := rfl
  have h2 : rowS p a p % p = 1 := by
   have := hp.rowS_mod a n (by omega)
   rwa [← hn] at this
  rw [binom, e, ch_self, Nat.one_mul, Nat.add_mod, h2, h1, Nat.add_mod a 1, Nat.add_comm, Nat.mod_eq_of_lt (show 1 < p by have := hp.1; omega)]
theorem fermat1 {p a : Nat} (hp : Pr p) (ha : ¬ p ∣ a) : One p a (p - 1) := by
 have h := fermat hp a
 have h1 := hp.1
 obtain ⟨n, rfl⟩ : ∃ n, p = n + 1 := ⟨p - 1, by omega⟩
 rw [Nat.add_sub_cancel]
 unfold One
 have h0 : 0 < a := Nat.pos_of_ne_zero (fun h => ha (by rw [h]; exact Nat.dvd_zero _))
 have hpos : 0 < a ^ n := Nat.pow_pos h0
 have h2 : n + 1 ∣ a * (a ^ n - 1) := by
  rw [Nat.mul_sub_one, ← Nat.pow_succ']
  exact Nat.dvd_of_mod_eq_zero (Nat.sub_mod_eq_zero_of_mod_eq h)
 rcases hp.dvd_mul h2 with h3 | ⟨t, h3⟩
 ·exact absurd h3 ha
 ·rw [show a ^ n = 1 + (n + 1) * t by omega, Nat.add_mul_mod_self_left, Nat.mod_eq_of_lt (by omega)]
end Go.Proofs.YtkjlfjnncdkmlaaGreat.PN

/- Plain: the strong tests to the bases 2, 7 and 61: what is calculated, and what it shows. -/
namespace Go.Proofs.YtkjlfjnncdkmlaaGreat.PN

/-- A strong test. -/
def Sp (a n : Nat) : Prop := ∃ d s, n - 1 = d * 2 ^ s ∧ d % 2 = 1 ∧ (a ^ d % n = 1 ∨ ∃ r, r < s ∧ a ^ (d * 2 ^ r) % n = n - 1)
def Ps (n : Nat) : Prop := Sp 2 n ∧ Sp 7 n ∧ Sp 61 n
theorem one_of_minus {a n e : Nat} (hn : 2 ≤ n) (h : a ^ e % n = n - 1) : One n a (e * 2) := by
 unfold One
 rw [Nat.pow_mul, Nat.pow_mod, h]
 obtain ⟨m, rfl⟩ : ∃ m, n = m + 2 := ⟨n - 2, by omega⟩
 rw [show m + 2 - 1 = m + 1 by omega, show (m + 1) ^ 2 = 1 + (m + 2) * m by rw [Nat.pow_two]; simp only [Nat.add_mul, Nat.mul_add]; omega, Nat.add_mul_mod_self_left, Nat.mod_eq_of_lt (by omega)]
theorem Sp.one {a n : Nat} (hn : 2 ≤ n) (h : Sp a n) : One n a (n - 1) := by
 obtain ⟨d, s, h1, h2, h3 | ⟨r, hr, h3⟩⟩ := h
 ·rw [h1]; exact One.mul hn h3 _
 ·have h4 := (one_of_minus hn h3).mul hn (2 ^ (s - r - 1))
  rw [h1]
  rwa [Nat.mul_assoc, Nat.mul_assoc, show 2 ^ r * (2 * 2 ^ (s - r - 1)) = 2 ^ s by rw [← Nat.pow_succ', ← Nat.pow_add]; congr 1; omega] at h4
def fz {α : Type} (x : Nat) (f : Nat → α) : α := match x with
 | 0 => f 0
 | Nat.succ k => f (Nat.succ k)
theorem fz_eq {α : Type} (x : Nat) (f : Nat → α) : fz x f = f x := by cases x <;> rfl
def pmB (x a d n : Nat) : Nat := Nat.mod (Nat.mul (Nat.pow x 256) (Nat.pow a d)) n
def pm (a e n : Nat) : Nat :=
 pmB (pmB (pmB (Nat.mod (Nat.pow a (Nat.div e 16777216)) n) a (Nat.mod (Nat.div e 65536) 256) n) a (Nat.mod (Nat.div e 256) 256) n) a (Nat.mod e 256) n
theorem pmB_eq (a u d n : Nat) : pmB (a ^ u % n) a d n = a ^ (u * 256 + d) % n := by
 show ((a ^ u % n) ^ 256 * a ^ d) % n = _
 rw [Nat.mul_mod, ← Nat.pow_mod, ← Nat.mul_mod, ← Nat.pow_mul, ← Nat.pow_add]
theorem pm_eq (a e n : Nat) : pm a e n = a ^ e % n := by
 show pmB (pmB (pmB (a ^ (e / 16777216) % n) a (e / 65536 % 256) n) a (e / 256 % 256) n) a (e % 256) n = _
 rw [pmB_eq, pmB_eq, pmB_eq]
 congr 2
 omega
def nn : Nat := 2147483648
def spGo : Nat → Nat → Nat → Nat → Bool
 | 0, _, _, _ => true
 | f+1, a, e, n => fz (pm a e n) fun x => cond (Nat.beq (Nat.succ x) n) true (cond (Nat.beq x 1) (cond (Nat.beq (Nat.mod e 2) 1) true (spGo f a (Nat.div e 2) n)) false)
theorem spGo_succ (f a e n : Nat) : spGo (f + 1) a e n = cond (Nat.beq (Nat.succ (a ^ e % n)) n) true (cond (Nat.beq (a ^ e % n) 1) (cond (Nat.beq (e % 2) 1) true (spGo f a (e / 2) n)) false) := by
 show fz (pm a e n) _ = _
 rw [fz_eq, pm_eq]
 rfl
theorem beqN {a b : Nat} : Nat.beq a b = true ↔ a = b := ⟨Nat.eq_of_beq_eq_true, fun h => by subst h; exact Nat.beq_refl a⟩
theorem bleN {a b : Nat} : Nat.ble a b = true ↔ a ≤ b := ⟨Nat.le_of_ble_eq_true, Nat.ble_eq_true_of_le⟩
theorem beqF {a b : Nat} (h : a ≠ b) : Nat.beq a b = false := by
 cases h1 : Nat.beq a b with
 | false => rfl
 | true => exact absurd (beqN.1 h1) h
theorem bleF {a b : Nat} (h : ¬ a ≤ b) : Nat.ble a b = false := by
 cases h1 : Nat.ble a b with
 | false => rfl
 | true => exact absurd (bleN.1 h1) h
theorem condF {a b : Bool} (h : cond a b false = true) : a = true ∧ b = true := by
 cases a
 ·cases h
 ·exact ⟨rfl, h⟩
theorem spGo_ok {a n d s : Nat} (hn : 2 < n) (hd : d % 2 = 1) (h : a ^ d % n = 1 ∨ ∃ r, r < s ∧ a ^ (d * 2 ^ r) % n = n - 1) :
  ∀ (f i : Nat), i < s → (a ^ d % n = 1 ∨ ∃ r, r ≤ i ∧ a ^ (d * 2 ^ r) % n = n - 1) → spGo f a (d * 2 ^ i) n = true
 | 0, _, _, _ => rfl
 | f + 1, i, hi, hc => by
  rw [spGo_succ]
  have hone : a ^ (d * 2 ^ i) % n = n - 1 ∨ (a ^ (d * 2 ^ i) % n = 1 ∧ (i = 0 → a ^ d % n = 1) ∧ (∀ j, i = j + 1 → (a ^ d % n = 1 ∨ ∃ r, r ≤ j ∧ a ^ (d * 2 ^ r) % n = n - 1))) := by
   rcases hc with h1 | ⟨r, hr, h1⟩
   ·exact Or.inr ⟨One.mul (by omega) h1 _, fun _ => h1, fun _ _ => Or.inl h1⟩
   ·rcases Nat.lt_or_ge r i with hlt | hge
    ·right
     refine ⟨?_, fun h => by omega, fun j hj => Or.inr ⟨r, by omega, h1⟩⟩
     have h4 := (one_of_minus (by omega) h1).mul (by omega) (2 ^ (i - r - 1))
     rwa [Nat.mul_assoc, Nat.mul_assoc, show 2 ^ r * (2 * 2 ^ (i - r - 1)) = 2 ^ i by rw [← Nat.pow_succ', ← Nat.pow_add]; congr 1; omega] at h4
    ·left
     obtain rfl : r = i := by omega
     exact h1
  rcases hone with h1 | ⟨h1, h2, h3⟩
  ·rw [h1, beqN.2 (show Nat.succ (n - 1) = n by omega)]
   rfl
  ·rw [h1, beqF (show Nat.succ 1 ≠ n by omega), beqN.2 (rfl : 1 = 1)]
   show cond (Nat.beq (d * 2 ^ i % 2) 1) true (spGo f a (d * 2 ^ i / 2) n) = true
   cases i with
   | zero => rw [Nat.pow_zero, Nat.mul_one, beqN.2 hd]; rfl
   | succ j =>
    rw [Nat.pow_succ, ← Nat.mul_assoc, Nat.mul_div_cancel _ (by omega), Nat.mul_mod_left]
    exact spGo_ok hn hd h f j (by omega) (h3 j rfl)
def fails (n : Nat) : Bool :=
 cond (Nat.beq (pm 2 (Nat.pred n) n) 1)
  (cond (Nat.beq (pm 7 (Nat.pred n) n) 1) (cond (Nat.beq (pm 61 (Nat.pred n) n) 1)
   (not (and (spGo 32 2 (Nat.div n 2) n) (and (spGo 32 7 (Nat.div n 2) n) (spGo 32 61 (Nat.div n 2) n)))) true) true)
  true
theorem Sp.go {a n : Nat} (hn : 2 < n) (ho : n % 2 = 1) (h : Sp a n) (f : Nat) : spGo f a (n / 2) n = true := by
 obtain ⟨d, s, h1, h2, h3⟩ := h
 have hs : s ≠ 0 := fun h => by subst h; rw [Nat.pow_zero, Nat.mul_one] at h1; omega
 obtain ⟨t, rfl⟩ : ∃ t, s = t + 1 := ⟨s - 1, by omega⟩
 have h4 : n / 2 = d * 2 ^ t := by clear h3; rw [Nat.pow_succ, ← Nat.mul_assoc] at h1; omega
 rw [h4]
 refine spGo_ok hn h2 h3 f t (by omega) ?_
 rcases h3 with h3 | ⟨r, hr, h3⟩
 ·exact Or.inl h3
 ·exact Or.inr ⟨r, by omega, h3⟩
theorem fails_sound {n : Nat} (hn : 2 < n) (ho : n % 2 = 1) (h : Ps n) : fails n = false := by
 obtain ⟨h1, h2, h3⟩ := h
 have e : ∀ a, Sp a n → Nat.beq (pm a (Nat.pred n) n) 1 = true := fun a ha => by
  rw [pm_eq]; exact beqN.2 (ha.one (by omega))
 unfold fails
 rw [e 2 h1, e 7 h2, e 61 h3]
 show (not (and (spGo 32 2 (n / 2) n) (and (spGo 32 7 (n / 2) n) (spGo 32 61 (n / 2) n)))) = false
 rw [h1.go hn ho, h2.go hn ho, h3.go hn ho]
 rfl
def chk (n : Nat) : Bool := cond (Nat.ble n 2000) true (cond (Nat.ble nn n) true (fails n))
theorem chk_sound {n : Nat} (h : chk n = true) (h0 : 2000 < n) (h1 : n < nn) (ho : n % 2 = 1) (hp : Ps n) : False := by
 unfold chk at h
 rw [bleF (by omega), bleF (by omega)] at h
 have := fails_sound (by omega) ho hp
 rw [this] at h
 cases h
/-- n, n + st, .. : f numbers. -/
def en : Nat → Nat → Nat → Bool
  | 0, _, _ => true
  | f+1, n, st => cond (chk n) (fz (Nat.add n st) fun n' => en f n' st) false
theorem en_sound : ∀ (f n st : Nat), en f n st = true → ∀ j, j < f → chk (n + j * st) = true
 | 0, _, _, _, j, hj => by omega
 | f + 1, n, st, h, j, hj => by
  obtain ⟨h1, h2⟩ := condF h
  rw [fz_eq] at h2
  cases j with
  | zero => rwa [Nat.zero_mul, Nat.add_zero]
  | succ j =>
   have := en_sound f _ st h2 j (by omega)
   rwa [show n + (j + 1) * st = Nat.add n st + j * st by show _ = n + st + j * st; rw [Nat.add_mul]; omega]
def sp : List Nat := [2, 3, 5, 7, 11, 13, 17, 19, 23, 29, 31, 37, 41, 43, 47, 53, 59, 61, 67, 71, 73, 79, 83, 89, 97, 101, 103, 107, 109, 113, 127, 131, 137, 139, 149, 151, 157, 163, 167, 173, 179, 181, 191, 193, 197, 199, 211]
theorem sp_pr0 : ∀ r ∈ sp, 2 ≤ r ∧ ∀ d, d < r → 2 ≤ d → r % d ≠ 0 := by decide +kernel
theorem sp_pr {r : Nat} (h : r ∈ sp) : Pr r := by
 obtain ⟨h1, h2⟩ := sp_pr0 r h
 refine ⟨h1, fun d hd => ?_⟩
 have h3 := Nat.le_of_dvd (by omega) hd
 have h4 : d ≠ 0 := fun h => by subst h; rw [Nat.zero_dvd] at hd; omega
 rcases (show d = 1 ∨ d = r ∨ (2 ≤ d ∧ d < r) by omega) with h | h | ⟨h5, h6⟩
 ·exact Or.inl h
 ·exact Or.inr h
 ·exact absurd (Nat.mod_eq_zero_of_dvd hd) (h2 d h6 h5)
theorem sp_all0 : ∀ t, t < 223 → t ∈ sp ∨ t < 2 ∨ ∃ d, d < 15 ∧ 2 ≤ d ∧ d < t ∧ t % d = 0 := by decide +kernel
theorem sp_all {t : Nat} (h : Pr t) (ht : t < 223) : t ∈ sp := by
 rcases sp_all0 t ht with h1 | h1 | ⟨d, -, h2, h3, h4⟩
 ·exact h1
 ·have := h.1; omega
 ·rcases h.2 d (Nat.dvd_of_mod_eq_zero h4) with h5 | h5 <;> omega
theorem sp_le {r : Nat} (h : r ∈ sp) : r ≤ 211 := (show ∀ r ∈ sp, r ≤ 211 by decide) r h
theorem noSmall {c s : Nat} (h0 : 0 < c) (hc : c < 49729) (hno : ∀ r ∈ sp, ¬ r ∣ c) (hs : Pr s) (hd : s ∣ c) : s = c := by
 obtain ⟨u, hu⟩ := hd
 rcases (show u = 0 ∨ u = 1 ∨ 2 ≤ u by omega) with rfl | rfl | h2
 ·omega
 ·omega
 ·exfalso
  obtain ⟨t, ht, htu⟩ := exists_prime h2
  have h3 : 223 ≤ s := by
   rcases Nat.lt_or_ge s 223 with h | h
   ·exact absurd ⟨u, hu⟩ (hno s (sp_all hs h))
   ·exact h
  have h4 : 223 ≤ t := by
   rcases Nat.lt_or_ge t 223 with h | h
   ·exact absurd (Nat.dvd_trans htu ⟨s, by rw [hu, Nat.mul_comm]⟩) (hno t (sp_all ht h))
   ·exact h
  have h5 := Nat.le_of_dvd (by omega) htu
  have h6 : 223 * 223 ≤ s * u := Nat.mul_le_mul h3 (by omega)
  omega
def hasSp : List Nat → Nat → Bool
 | [], _ => false
 | r :: l, n => cond (Nat.beq (Nat.mod n r) 0) true (hasSp l n)
theorem hasSp_iff (n : Nat) : ∀ l, hasSp l n = true ↔ ∃ r ∈ l, r ∣ n
 | [] => ⟨fun h => (by cases h), fun ⟨r, h, _⟩ => (by cases h)⟩
 | r :: l => by
  unfold hasSp
  by_cases h : n % r = 0
  ·rw [beqN.2 (show Nat.mod n r = 0 from h)]
   exact ⟨fun _ => ⟨r, List.mem_cons_self, Nat.dvd_of_mod_eq_zero h⟩, fun _ => rfl⟩
  ·rw [beqF (show Nat.mod n r ≠ 0 from h)]
   show hasSp l n = true ↔ _
   rw [hasSp_iff n l]
   constructor
   ·rintro ⟨s, hs, hd⟩; exact ⟨s, List.mem_cons_of_mem _ hs, hd⟩
   ·rintro ⟨s, hs, hd⟩
    rcases List.mem_cons.1 hs with rfl | hs
    ·exact absurd (Nat.mod_eq_zero_of_dvd hd) h
    ·exact ⟨s, hs, hd⟩
theorem hasSp_not {p : Nat} (h : hasSp sp p = true) (hp : 211 < p) : ¬ Pr p := by
 obtain ⟨r, hr, hd⟩ := (hasSp_iff p sp).1 h
 intro hpr
 have := (sp_pr hr).eq_of_dvd hpr hd
 have := sp_le hr
 omega
theorem pr_of_no {q : Nat} (h2 : 2 ≤ q) (hq : q < 49729) (h : hasSp sp q = false) : Pr q := by
 obtain ⟨s, hs, hd⟩ := exists_prime h2
 have := noSmall (by omega) hq (fun r hr hd => by rw [(hasSp_iff q sp).2 ⟨r, hr, hd⟩] at h; cases h) hs hd
 rwa [this] at hs
def divOut : Nat → Nat → Nat → Nat
 | 0, c, _ => c
 | f+1, c, r => cond (Nat.beq (Nat.mod c r) 0) (fz (Nat.div c r) fun c' => divOut f c' r) c
theorem divOut_succ (f c r : Nat) : divOut (f + 1) c r = if r ∣ c then divOut f (c / r) r else c := by
 show cond (Nat.beq (c % r) 0) (fz (c / r) fun c' => divOut f c' r) c = _
 rw [fz_eq]
 by_cases h : r ∣ c
 ·rw [beqN.2 (Nat.mod_eq_zero_of_dvd h), if_pos h]; rfl
 ·rw [beqF (fun h2 => h (Nat.dvd_of_mod_eq_zero h2)), if_neg h]; rfl
theorem divOut_spec {r : Nat} (hr : Pr r) : ∀ (f c : Nat), 0 < c → c < 2 ^ f → ¬ r ∣ divOut f c r ∧ divOut f c r ∣ c ∧ 0 < divOut f c r ∧ ∀ s, Pr s → s ≠ r → s ∣ c → s ∣ divOut f c r
 | 0, c, h0, hc => by rw [Nat.pow_zero] at hc; omega
 | f + 1, c, h0, hc => by
  rw [divOut_succ]
  by_cases h : r ∣ c
  ·rw [if_pos h]
   obtain ⟨u, rfl⟩ := h
   have hr2 := hr.1
   rw [Nat.mul_div_cancel_left _ hr.pos]
   have hu0 : 0 < u := Nat.pos_of_ne_zero (fun h => by subst h; simp at h0)
   have hu : 2 * u ≤ r * u := Nat.mul_le_mul_right u hr2
   rw [Nat.pow_succ] at hc
   obtain ⟨h1, h2, h3, h4⟩ := divOut_spec hr f u hu0 (by omega)
   refine ⟨h1, Nat.dvd_trans h2 ⟨r, Nat.mul_comm _ _⟩, h3, fun s hs hne hd => h4 s hs hne ?_⟩
   rcases hs.dvd_mul hd with h5 | h5
   ·exact absurd (hs.eq_of_dvd hr h5) hne
   ·exact h5
  ·rw [if_neg h]
   exact ⟨h, Nat.dvd_refl _, h0, fun s _ _ hd => hd⟩
/-- all three bases have the power 1. -/
def ones (e q : Nat) : Bool := and (Nat.beq (pm 2 e q) 1) (and (Nat.beq (pm 7 e q) 1) (Nat.beq (pm 61 e q) 1))
def bases : List Nat := [2, 7, 61]
theorem ones_iff (e q : Nat) : ones e q = true ↔ ∀ a ∈ bases, One q a e := by
 unfold ones bases One
 rw [Bool.and_eq_true, Bool.and_eq_true, pm_eq, pm_eq, pm_eq]
 simp [beqN]
def certGo : List Nat → Nat → Nat → Nat → Bool
 | [], c, d, q => cond (Nat.beq c 1) true (not (ones (Nat.div d c) q))
 | r :: l, c, d, q => cond (Nat.beq (Nat.mod c r) 0) (cond (ones (Nat.div d r) q) false (fz (divOut 17 c r) fun c' => certGo l c' d q)) (certGo l c d q)
theorem certGo_sound (d q : Nat) : ∀ (l : List Nat) (c : Nat), (∀ r ∈ l, r ∈ sp) → 0 < c → c < 49729 → (∀ r ∈ sp, r ∈ l ∨ ¬ r ∣ c) → certGo l c d q = true → ∀ s, Pr s → s ∣ c → ones (d / s) q = false
 | [], c, _, h0, hc, hno, h, s, hs, hd => by
  have h1 := noSmall h0 hc (fun r hr hd => by rcases hno r hr with h2 | h2; cases h2; exact h2 hd) hs hd
  subst h1
  unfold certGo at h
  rw [beqF (show s ≠ 1 by have := hs.1; omega)] at h
  have h2 : (!ones (d / s) q) = true := h
  cases h3 : ones (d / s) q
  ·rfl
  ·rw [h3] at h2; cases h2
 | r :: l, c, hl, h0, hc, hno, h, s, hs, hd => by
  unfold certGo at h
  have hr := hl r List.mem_cons_self
  by_cases hrc : r ∣ c
  ·rw [beqN.2 (show Nat.mod c r = 0 from Nat.mod_eq_zero_of_dvd hrc)] at h
   have h1 : cond (ones (d / r) q) false (fz (divOut 17 c r) fun c' => certGo l c' d q) = true := h
   rw [fz_eq] at h1
   cases h2 : ones (d / r) q with
   | true => rw [h2] at h1; cases h1
   | false =>
    rw [h2] at h1
    have h3 : certGo l (divOut 17 c r) d q = true := h1
    obtain ⟨a1, a2, a3, a4⟩ := divOut_spec (sp_pr hr) 17 c h0 (by omega)
    by_cases hsr : s = r
    ·subst hsr; exact h2
    ·refine certGo_sound d q l _ (fun x hx => hl x (List.mem_cons_of_mem _ hx)) a3 (Nat.lt_of_le_of_lt (Nat.le_of_dvd h0 a2) hc) (fun x hx => ?_) h3 s hs (a4 s hs hsr hd)
     rcases hno x hx with h4 | h4
     ·rcases List.mem_cons.1 h4 with h5 | h5
      ·subst h5; exact Or.inr a1
      ·exact Or.inl h5
     ·exact Or.inr (fun h5 => h4 (Nat.dvd_trans h5 a2))
  ·rw [beqF (show Nat.mod c r ≠ 0 from fun h2 => hrc (Nat.dvd_of_mod_eq_zero h2))] at h
   refine certGo_sound d q l c (fun x hx => hl x (List.mem_cons_of_mem _ hx)) h0 hc (fun x hx => ?_) h s hs hd
   rcases hno x hx with h4 | h4
   ·rcases List.mem_cons.1 h4 with h5 | h5
    ·subst h5; exact Or.inr hrc
    ·exact Or.inl h5
   ·exact Or.inr h4
def cert (d q : Nat) : Bool := and (ones d q) (and (Nat.ble 1 d) (and (Nat.ble d 46341) (certGo sp d d q)))
theorem cert_sound {d q e : Nat} (hq : 2 ≤ q) (h : cert d q = true) (he : ∀ a ∈ bases, One q a e) : d ∣ e := by
 unfold cert at h
 rw [Bool.and_eq_true, Bool.and_eq_true, Bool.and_eq_true] at h
 obtain ⟨h1, h2, h3, h4⟩ := h
 have h2 := bleN.1 h2
 have h3 := bleN.1 h3
 refine ord_dvd (B := bases) hq (by omega) ((ones_iff d q).1 h1) (fun r hr hd => ?_) he
 have h5 := certGo_sound d q sp d (fun _ h => h) (by omega) (by omega) (fun r hr => Or.inl hr) h4 r hr hd
 refine Classical.byContradiction fun hno => ?_
 have h6 : ones (d / r) q = true := (ones_iff _ _).2 fun a ha => Classical.byContradiction fun h7 => hno ⟨a, ha, h7⟩
 rw [h5] at h6
 cases h6
theorem Ps.one {n : Nat} (hn : 2 ≤ n) (h : Ps n) : ∀ a ∈ bases, One n a (n - 1) := by
 intro a ha
 obtain ⟨h1, h2, h3⟩ := h
 simp only [bases, List.mem_cons, List.not_mem_nil, or_false] at ha
 rcases ha with rfl | rfl | rfl
 ·exact h1.one hn
 ·exact h2.one hn
 ·exact h3.one hn
theorem base_no {p a : Nat} (hp : Pr p) (h : 61 < p) (ha : a ∈ bases) : ¬ p ∣ a := by
 intro hd
 have h2 : 0 < a ∧ a ≤ 61 := by
  simp only [bases, List.mem_cons, List.not_mem_nil, or_false] at ha
  omega
 have := Nat.le_of_dvd h2.1 hd
 omega
def lessR : Nat → Nat → Nat → Nat → Nat
 | 0, d, _, _ => d
 | f+1, d, r, q => cond (Nat.beq (Nat.mod d r) 0) (fz (Nat.div d r) fun d' => cond (ones d' q) (lessR f d' r q) d) d
def lessGo : List Nat → Nat → Nat → Nat → Nat
 | [], c, d, q => cond (Nat.beq c 1) d (lessR 2 d c q)
 | r :: l, c, d, q => cond (Nat.beq (Nat.mod c r) 0) (fz (divOut 17 c r) fun c' => fz (lessR 17 d r q) fun d' => lessGo l c' d' q) (lessGo l c d q)
/-- A prime above the list's: it is none, or nothing is left of its multiples. -/
def bigOne (p : Nat) : Bool := cond (hasSp sp p) true (fz (lessGo sp (Nat.pred p) (Nat.pred p) p) fun d => cond (cert d p) (fz (Nat.mul p d) fun st => en (Nat.div nn st) (Nat.add p st) st) false)
theorem bigOne_sound {p k : Nat} (hp : Pr p) (h2 : 2000 < p) (h : bigOne p = true) (hk : 2 ≤ k) (hn : p * k < nn) (ho : p * k % 2 = 1) (hs : Ps (p * k)) : False := by
 unfold bigOne at h
 cases h1 : hasSp sp p with
 | true => exact hasSp_not h1 (by omega) hp
 | false =>
  rw [h1] at h
  have h3 : (fz (lessGo sp (Nat.pred p) (Nat.pred p) p) fun d => cond (cert d p) (fz (Nat.mul p d) fun st => en (Nat.div nn st) (Nat.add p st) st) false) = true := h
  rw [fz_eq] at h3
  generalize lessGo sp (Nat.pred p) (Nat.pred p) p = d at h3
  obtain ⟨hc, he⟩ := condF h3
  rw [fz_eq] at he
  have hp0 := hp.pos
  have hpk : p ≤ p * k := Nat.le_mul_of_pos_right p (by omega)
  have hone := hs.one (by omega)
  have d1 : d ∣ p * k - 1 := cert_sound hp.1 hc fun a ha => (hone a ha).dvd hp.1 ⟨k, rfl⟩
  have d2 : d ∣ p - 1 := cert_sound hp.1 hc fun a ha => fermat1 hp (base_no hp (by omega) ha)
  have d3 : d ∣ k - 1 := by
   have e1 : p * k - 1 = (p - 1) * k + (k - 1) := by
    obtain ⟨q, rfl⟩ : ∃ q, p = q + 1 := ⟨p - 1, by omega⟩
    rw [Nat.add_sub_cancel, Nat.add_mul]
    omega
   rw [e1] at d1
   exact (Nat.dvd_add_iff_right (Nat.dvd_trans d2 ⟨k, rfl⟩)).2 d1
  obtain ⟨j, hj⟩ := d3
  have hj0 : j ≠ 0 := fun h => by subst h; omega
  obtain ⟨i, rfl⟩ : ∃ i, j = i + 1 := ⟨j - 1, by omega⟩
  have e2 : p * k = p + p * d + i * (p * d) := by
   rw [show k = 1 + d * (i + 1) by omega, Nat.mul_add, Nat.mul_one, Nat.mul_add, Nat.mul_one, Nat.mul_add, ← Nat.mul_assoc, Nat.mul_comm (p * d) i]
   omega
  have hd0 : 0 < d := Nat.pos_of_ne_zero (fun h => by subst h; rw [Nat.zero_mul] at hj; omega)
  have hst : 0 < p * d := Nat.mul_pos hp0 hd0
  have hi : i < nn / (p * d) := by
   refine (Nat.le_div_iff_mul_le hst).2 ?_
   show (i + 1) * (p * d) ≤ nn
   rw [Nat.add_mul, Nat.one_mul]
   omega
  have h5 := en_sound _ _ _ he i hi
  have h6 : chk (p * k) = true := by rw [e2]; exact h5
  exact chk_sound h6 (by omega) hn ho hs
/-- The odd numbers p, p + 2, .. -/
def bigs : Nat → Nat → Bool
  | 0, _ => true
  | f+1, p => cond (bigOne p) (fz (Nat.add p 2) fun p' => bigs f p') false
theorem bigs_sound : ∀ (f p : Nat), bigs f p = true → ∀ i, i < f → bigOne (p + 2 * i) = true
 | 0, _, _, i, hi => by omega
 | f + 1, p, h, i, hi => by
  obtain ⟨h1, h2⟩ := condF h
  rw [fz_eq] at h2
  cases i with
  | zero => exact h1
  | succ i =>
   have := bigs_sound f _ h2 i (by omega)
   rwa [show p + 2 * (i + 1) = Nat.add p 2 + 2 * i by show _ = p + 2 + 2 * i; omega]
end Go.Proofs.YtkjlfjnncdkmlaaGreat.PN

/- Plain: numbers whose primes are all small; numbers with a great prime. -/
namespace Go.Proofs.YtkjlfjnncdkmlaaGreat.PN

inductive PL where
 | nil
 | cons (q d : Nat) (t : PL)
def PL.mem (s : Nat) : PL → Prop
 | .nil => False
 | .cons q _ t => s = q ∨ t.mem s
/-- What a number n asks of a list. -/
def PL.good (n : Nat) : PL → Prop
  | .nil => True
  | .cons q d t => (q ∣ n → d ∣ n - 1) ∧ Pr q ∧ ¬ q * q ∣ n ∧ t.good n
def inv : Nat → Nat → Nat → Nat → Nat → Nat → Nat
 | 0, _, _, t0, _, _ => t0
 | f+1, r0, r1, t0, t1, D => cond (Nat.beq r1 0) t0 (fz (Nat.div r0 r1) fun q => fz (Nat.mod r0 r1) fun r2 => fz (Nat.mod (Nat.add t0 (Nat.mul (Nat.sub D (Nat.mod q D)) t1)) D) fun t2 => inv f r1 r2 t1 t2 D)
def enum (m D c : Nat) : Bool := fz (inv 60 D (Nat.mod m D) 0 1 D) fun k0 => cond (and (Nat.beq (Nat.mod (Nat.mul m k0) D) 1) (Nat.ble k0 D)) (fz (Nat.mul m k0) fun n0 => fz (Nat.mul m D) fun st => en (Nat.succ c) n0 st) false
def br (q d : Nat) (F : Nat → Nat → Bool) (m D : Nat) : Bool :=
 fz (Nat.mul m q) fun m' => cond (Nat.ble nn m') true (fz (Nat.div (Nat.mul D d) (Nat.gcd D d)) fun D' => cond (Nat.beq (Nat.gcd m' D') 1) (fz (Nat.div nn (Nat.mul m' D')) fun c => cond (Nat.ble c 30) (enum m' D' c) (F m' D')) true)
def dfs : PL → Nat → Nat → Bool
 | .nil, m, _ => chk m
 | .cons q d t, m, D => cond (br q d (fun m' D' => dfs t m' D') m D) (dfs t m D) false
theorem enum_sound {n m D k : Nat} (h : enum m D (nn / (m * D)) = true) (hg : Nat.gcd m D = 1) (hn : n = m * k) (hD : D ∣ n - 1) (h0 : 2000 < n) (h1 : n < nn) (ho : n % 2 = 1) (hs : Ps n) : False := by
 unfold enum at h
 rw [fz_eq] at h
 generalize inv 60 D (Nat.mod m D) 0 1 D = k0 at h
 obtain ⟨h2, h3⟩ := condF h
 rw [Bool.and_eq_true] at h2
 obtain ⟨h4, h5⟩ := h2
 rw [fz_eq, fz_eq] at h3
 have h4 : m * k0 % D = 1 := beqN.1 h4
 have h5 := bleN.1 h5
 have h3 : en (nn / (m * D) + 1) (m * k0) (m * D) = true := h3
 have hD0 : 0 < D := Nat.pos_of_ne_zero (fun h => by subst h; rw [Nat.zero_dvd] at hD; omega)
 have hm0 : 0 < m := Nat.pos_of_ne_zero (fun h => by subst h; rw [Nat.zero_mul] at hn; omega)
 have hk0 : 0 < k := Nat.pos_of_ne_zero (fun h => by subst h; rw [Nat.mul_zero] at hn; omega)
 have hcop : Nat.Coprime D m := by rw [Nat.coprime_comm]; exact hg
 have e0 : D ∣ m * k0 - 1 := by
  have h6 := Nat.div_add_mod (m * k0) D
  rw [h4] at h6
  exact ⟨m * k0 / D, by omega⟩
 have p0 : 1 ≤ m * k0 := by
  rcases Nat.eq_zero_or_pos (m * k0) with h6 | h6
  ·rw [h6, Nat.zero_mod] at h4; omega
  ·exact h6
 rw [hn] at hD
 have hle : k0 ≤ k := by
  rcases Nat.lt_or_ge k k0 with hlt | hge
  ·exfalso
   have h6 : D ∣ m * (k0 - k) := by
    have h7 := Nat.dvd_sub e0 hD
    rwa [show m * k0 - 1 - (m * k - 1) = m * (k0 - k) by rw [Nat.mul_sub]; have : m * k ≤ m * k0 := Nat.mul_le_mul_left m (by omega); have : 0 < m * k := Nat.mul_pos hm0 hk0; omega] at h7
   have h8 := Nat.le_of_dvd (by omega) (hcop.dvd_of_dvd_mul_left h6)
   omega
  ·exact hge
 have h6 : D ∣ m * (k - k0) := by
  have h7 := Nat.dvd_sub hD e0
  rwa [show m * k - 1 - (m * k0 - 1) = m * (k - k0) by rw [Nat.mul_sub]; have : m * k0 ≤ m * k := Nat.mul_le_mul_left m hle; omega] at h7
 obtain ⟨j, hj⟩ := hcop.dvd_of_dvd_mul_left h6
 have e1 : m * k = m * k0 + j * (m * D) := by
  rw [show k = k0 + D * j by omega, Nat.mul_add, Nat.mul_left_comm j, Nat.mul_comm j]
 have hst : 0 < m * D := Nat.mul_pos hm0 hD0
 have hjc : j < nn / (m * D) + 1 := by
  have : j ≤ nn / (m * D) := (Nat.le_div_iff_mul_le hst).2 (by omega)
  omega
 have h9 := en_sound _ _ _ h3 j hjc
 rw [← e1, ← hn] at h9
 exact chk_sound h9 h0 h1 ho hs
theorem br_sound {n q d m D k : Nat} {F : Nat → Nat → Bool} (h : br q d F m D = true) (hn : n = m * q * k) (hD : D ∣ n - 1) (hd : d ∣ n - 1) (h0 : 2000 < n) (h1 : n < nn) (ho : n % 2 = 1) (hs : Ps n) :
  ∃ D', D' ∣ n - 1 ∧ F (m * q) D' = true := by
 unfold br at h
 rw [fz_eq] at h
 have hmq : m * q ∣ n := ⟨k, hn⟩
 have hle := Nat.le_of_dvd (by omega) hmq
 have h := (show cond (Nat.ble nn (m * q)) true (fz (Nat.div (Nat.mul D d) (Nat.gcd D d)) fun D' => cond (Nat.beq (Nat.gcd (m * q) D') 1) (fz (Nat.div nn (Nat.mul (m * q) D')) fun c => cond (Nat.ble c 30) (enum (m * q) D' c) (F (m * q) D')) true) = true from h)
 rw [bleF (by omega)] at h
 have h := (show (fz (Nat.lcm D d) fun D' => cond (Nat.beq (Nat.gcd (m * q) D') 1) (fz (Nat.div nn (Nat.mul (m * q) D')) fun c => cond (Nat.ble c 30) (enum (m * q) D' c) (F (m * q) D')) true) = true from h)
 rw [fz_eq] at h
 have hD' : Nat.lcm D d ∣ n - 1 := Nat.lcm_dvd hD hd
 generalize Nat.lcm D d = D' at h hD'
 refine ⟨D', hD', ?_⟩
 have hg : Nat.gcd (m * q) D' = 1 := by
  obtain ⟨g, hg⟩ : ∃ g, g = Nat.gcd (m * q) D' := ⟨_, rfl⟩
  have a1 : g ∣ n := Nat.dvd_trans (by rw [hg]; exact Nat.gcd_dvd_left _ _) hmq
  have a2 : g ∣ n - 1 := Nat.dvd_trans (by rw [hg]; exact Nat.gcd_dvd_right _ _) hD'
  have a3 := Nat.dvd_sub a1 a2
  rw [show n - (n - 1) = 1 by omega, Nat.dvd_one] at a3
  rw [← hg, a3]
 rw [beqN.2 hg] at h
 have h := (show (fz (Nat.div nn (Nat.mul (m * q) D')) fun c => cond (Nat.ble c 30) (enum (m * q) D' c) (F (m * q) D')) = true from h)
 rw [fz_eq] at h
 cases hc : Nat.ble (Nat.div nn (Nat.mul (m * q) D')) 30 with
 | true =>
  rw [hc] at h
  exact (enum_sound (show enum (m * q) D' (nn / (m * q * D')) = true from h) hg hn hD' h0 h1 ho hs).elim
 | false =>
  rw [hc] at h
  exact h
theorem dfs_sound {n : Nat} (h0 : 2000 < n) (h1 : n < nn) (ho : n % 2 = 1) (hs : Ps n) : ∀ (t : PL) (m D k : Nat), dfs t m D = true → t.good n → D ∣ n - 1 → n = m * k → (∀ s, Pr s → s ∣ k → t.mem s) → False
 | .nil, m, D, k, h, _, _, hn, hk => by
  rcases (show k = 0 ∨ k = 1 ∨ 2 ≤ k by omega) with rfl | rfl | h2
  ·omega
  ·rw [Nat.mul_one] at hn
   subst hn
   exact chk_sound h h0 h1 ho hs
  ·obtain ⟨s, hsp, hd⟩ := exists_prime h2
   exact hk s hsp hd
 | .cons q d t, m, D, k, h, hg, hD, hn, hk => by
  obtain ⟨g1, g2, g3, g4⟩ := hg
  obtain ⟨h2, h3⟩ := condF h
  by_cases hq : q ∣ k
  ·obtain ⟨j, rfl⟩ := hq
   have hqn : q ∣ n := ⟨m * j, by rw [hn, Nat.mul_left_comm]⟩
   rw [← Nat.mul_assoc] at hn
   obtain ⟨D', hD', hF⟩ := br_sound h2 hn hD (g1 hqn) h0 h1 ho hs
   refine dfs_sound h0 h1 ho hs t (m * q) D' j hF g4 hD' hn fun s hsp hd => ?_
   rcases hk s hsp (Nat.dvd_trans hd ⟨q, Nat.mul_comm _ _⟩) with h4 | h4
   ·subst h4
    obtain ⟨i, rfl⟩ := hd
    exact absurd ⟨m * i, by rw [hn]; simp only [Nat.mul_comm, Nat.mul_left_comm]⟩ g3
   ·exact h4
  ·refine dfs_sound h0 h1 ho hs t m D k h3 g4 hD hn fun s hsp hd => ?_
   rcases hk s hsp hd with h4 | h4
   ·subst h4; exact absurd hd hq
   ·exact h4
/-- The branches of the first entries of a list. -/
def tops : Nat → PL → Bool
  | 0, _ => true
  | _ + 1, .nil => true
  | f + 1, .cons q d t => cond (br q d (fun m' D' => dfs t m' D') 1 1) (tops f t) false
/-- The entries' own tests. -/
def memB (s : Nat) : PL → Bool
  | .nil => false
  | .cons q _ t => cond (Nat.beq s q) true (memB s t)
theorem memB_sound (s : Nat) : ∀ t, memB s t = true → PL.mem s t
 | .nil, h => by cases h
 | .cons q d t, h => by
  unfold memB at h
  by_cases hq : s = q
  ·exact Or.inl hq
  ·rw [beqF hq] at h
   exact Or.inr (memB_sound s t h)
def elem (s : Nat) : List Nat → Bool
 | [] => false
 | r :: l => cond (Nat.beq s r) true (elem s l)
theorem elem_iff (s : Nat) : ∀ l, elem s l = true ↔ s ∈ l
 | [] => ⟨fun h => (by cases h), fun h => (by cases h)⟩
 | r :: l => by
  unfold elem
  by_cases h : s = r
  ·rw [beqN.2 h]; exact ⟨fun _ => by rw [h]; exact List.mem_cons_self, fun _ => rfl⟩
  ·rw [beqF h]
   show elem s l = true ↔ _
   rw [elem_iff s l, List.mem_cons]
   exact ⟨Or.inr, fun h2 => h2.resolve_left h⟩
def primeQ (q : Nat) : Bool := cond (elem q sp) true (and (Nat.ble 2 q) (not (hasSp sp q)))
theorem primeQ_iff {q : Nat} (hq : q < 49729) : primeQ q = true ↔ Pr q := by
 unfold primeQ
 cases h1 : elem q sp with
 | true => exact ⟨fun _ => sp_pr ((elem_iff q sp).1 h1), fun _ => rfl⟩
 | false =>
  show (Nat.ble 2 q && !hasSp sp q) = true ↔ _
  rw [Bool.and_eq_true, bleN]
  constructor
  ·rintro ⟨h2, h3⟩
   refine pr_of_no h2 hq ?_
   cases h4 : hasSp sp q
   ·rfl
   ·rw [h4] at h3; cases h3
  ·intro hp
   refine ⟨hp.1, ?_⟩
   cases h4 : hasSp sp q with
   | false => rfl
   | true =>
    obtain ⟨r, hr, hd⟩ := (hasSp_iff q sp).1 h4
    have := (sp_pr hr).eq_of_dvd hp hd
    subst this
    rw [(elem_iff r sp).2 hr] at h1
    cases h1
def wiefA (a q : Nat) : Bool := and (Nat.beq (pm a (Nat.mul q (Nat.pred q)) (Nat.mul q q)) 1) (not (Nat.beq (pm a (Nat.pred q) (Nat.mul q q)) 1))
def wief (q : Nat) : Bool := or (wiefA 2 q) (wiefA 7 q)
theorem wiefA_sound {a q n : Nat} (hq : Pr q) (h : wiefA a q = true) (hn : 2 ≤ n) (hone : One n a (n - 1)) : ¬ q * q ∣ n := by
 intro hd
 unfold wiefA at h
 rw [Bool.and_eq_true, pm_eq, pm_eq] at h
 obtain ⟨h1, h2⟩ := h
 have h1 : One (q * q) a (q * (q - 1)) := beqN.1 h1
 have hq2 := hq.1
 have hqq : 2 ≤ q * q := Nat.le_trans hq2 (Nat.le_mul_of_pos_left q hq.pos)
 have h3 := One.gcd hqq (n - 1) (q * (q - 1)) (hone.dvd hqq hd) h1
 have hqn : q ∣ n := Nat.dvd_trans ⟨q, rfl⟩ hd
 have hcop : Nat.Coprime (Nat.gcd (n - 1) (q * (q - 1))) q := by
  rw [Nat.coprime_comm]
  refine hq.cop fun h4 => ?_
  have h5 := Nat.dvd_sub hqn (Nat.dvd_trans h4 (Nat.gcd_dvd_left _ _))
  rw [show n - (n - 1) = 1 by omega, Nat.dvd_one] at h5
  omega
 have h4 : Nat.gcd (n - 1) (q * (q - 1)) ∣ q - 1 := hcop.dvd_of_dvd_mul_left (Nat.gcd_dvd_right _ _)
 have h5 : One (q * q) a (q - 1) := h3.of_dvd hqq h4
 have h6 : Nat.beq (a ^ Nat.pred q % Nat.mul q q) 1 = true := beqN.2 h5
 rw [h6] at h2
 cases h2
def okPL : PL → Bool
 | .nil => true
 | .cons q d t => and (Nat.ble q 2000) (and (primeQ q) (and (cert d q) (and (wief q) (okPL t))))
theorem okPL_sound {n : Nat} (hn : 2 ≤ n) (hs : Ps n) : ∀ t, okPL t = true → PL.good n t
 | .nil, _ => trivial
 | .cons q d t, h => by
  unfold okPL at h
  rw [Bool.and_eq_true, Bool.and_eq_true, Bool.and_eq_true, Bool.and_eq_true] at h
  obtain ⟨h0, h1, h2, h3, h4⟩ := h
  have h0 := bleN.1 h0
  have hq := (primeQ_iff (by omega)).1 h1
  have hone := hs.one hn
  refine ⟨fun hd => cert_sound hq.1 h2 fun a ha => (hone a ha).dvd hq.1 hd, hq, ?_, okPL_sound hn hs t h4⟩
  unfold wief at h3
  rw [Bool.or_eq_true] at h3
  rcases h3 with h3 | h3
  ·exact wiefA_sound hq h3 hn (hone 2 (by simp [bases]))
  ·exact wiefA_sound hq h3 hn (hone 7 (by simp [bases]))
/-- The product of the numbers up to 46341. -/
def mc : Nat → Nat → Nat
  | 0, i => cond (Nat.ble i 46340) (Nat.succ i) 1
  | f+1, i => Nat.mul (mc f (Nat.mul 2 i)) (mc f (Nat.succ (Nat.mul 2 i)))
theorem mc_dvd : ∀ (f i t : Nat), i * 2 ^ f ≤ t → t < (i + 1) * 2 ^ f → t ≤ 46340 → t + 1 ∣ mc f i
 | 0, i, t, h1, h2, h3 => by
  have : t = i := by omega
  subst this
  unfold mc
  rw [bleN.2 h3]
  exact Nat.dvd_refl _
 | f + 1, i, t, h1, h2, h3 => by
  show t + 1 ∣ mc f (2 * i) * mc f (2 * i + 1)
  rw [Nat.pow_succ'] at h1 h2
  rw [show i * (2 * 2 ^ f) = 2 * i * 2 ^ f by rw [Nat.mul_left_comm, Nat.mul_assoc]] at h1
  rw [show (i + 1) * (2 * 2 ^ f) = (2 * i + 1 + 1) * 2 ^ f by rw [← Nat.mul_assoc]; congr 1; omega] at h2
  rcases Nat.lt_or_ge t ((2 * i + 1) * 2 ^ f) with h | h
  ·exact Nat.dvd_trans (mc_dvd f (2 * i) t h1 h h3) ⟨_, rfl⟩
  ·exact Nat.dvd_trans (mc_dvd f (2 * i + 1) t h h2 h3) ⟨_, Nat.mul_comm _ _⟩
theorem mc_pr {p : Nat} (hp : Pr p) : ∀ (f i : Nat), p ∣ mc f i → p ≤ 46341
 | 0, i, h => by
  unfold mc at h
  cases h1 : Nat.ble i 46340 with
  | true =>
   rw [h1] at h
   have h2 : p ∣ i + 1 := h
   have := Nat.le_of_dvd (by omega) h2
   have := bleN.1 h1
   omega
  | false =>
   rw [h1] at h
   have h2 : p ∣ 1 := h
   have := Nat.le_of_dvd (by omega) h2
   omega
 | f + 1, i, h => by
  have h : p ∣ mc f (2 * i) * mc f (2 * i + 1) := h
  rcases hp.dvd_mul h with h1 | h1
  ·exact mc_pr hp f _ h1
  ·exact mc_pr hp f _ h1
def bigM : Nat := mc 16 0
theorem bigM_dvd {t : Nat} (h0 : 0 < t) (h1 : t ≤ 46341) : t ∣ bigM := by
 obtain ⟨s, rfl⟩ : ∃ s, t = s + 1 := ⟨t - 1, by omega⟩
 exact mc_dvd 16 0 s (by omega) (by rw [show (0 + 1) * 2 ^ 16 = 65536 by rfl]; omega) (by omega)
def bigTbl : List (Nat × Nat) := [(19033, 76129), (29161, 58321), (32941, 65881), (34441, 68881), (34669, 57781), (37129, 74257), (37645, 75289), (38065, 76129), (39061, 78121), (39625, 66041), (42601, 85201), (46117, 72469)]
def found : List (Nat × Nat) → Nat → Nat
 | [], _ => 1
 | (a, d) :: l, k => cond (Nat.beq a k) d (found l k)
def b2 : Nat := 2147488281
def one (M h k : Nat) : Bool := and (Nat.ble h b2) (and (Nat.beq (Nat.gcd h (Nat.mod M h)) 1) (chk (Nat.mul h k)))
def left (M h k : Nat) : Bool := cond (Nat.ble h 1) true (cond (Nat.ble h b2) (one M h k) (fz (found bigTbl k) fun d => fz (Nat.div h d) fun e => and (Nat.beq (Nat.mul d e) h) (and (one M d k) (one M e k))))
def oneK (M k : Nat) : Bool :=
 fz (Nat.pred (Nat.pow 2 (Nat.pred k))) fun a => fz (Nat.gcd a (Nat.pred (Nat.mod (Nat.pow 7 (Nat.pred k)) a))) fun g =>
  fz (Nat.gcd g (Nat.pred (Nat.mod (Nat.pow 61 (Nat.pred k)) g))) fun g2 => fz (Nat.mod (Nat.pow (Nat.mod M g2) 64) g2) fun z => fz (Nat.div g2 (Nat.gcd g2 z)) fun h => left M h k
def loopK : Nat → Nat → Nat → Bool
 | 0, _, _ => true
 | f+1, M, k => cond (oneK M k) (fz (Nat.add k 2) fun k' => loopK f M k') false
theorem loopK_sound (M : Nat) : ∀ (f k : Nat), loopK f M k = true → ∀ i, i < f → oneK M (k + 2 * i) = true
 | 0, _, _, i, hi => by omega
 | f + 1, k, h, i, hi => by
  obtain ⟨h1, h2⟩ := condF h
  rw [fz_eq] at h2
  cases i with
  | zero => exact h1
  | succ i =>
   have := loopK_sound M f _ h2 i (by omega)
   rwa [show k + 2 * (i + 1) = Nat.add k 2 + 2 * i by show _ = k + 2 + 2 * i; omega]
theorem one_sound {p h k : Nat} (hp : Pr p) (hb : 46341 < p) (h1 : one bigM h k = true) (hd : p ∣ h) (h0 : 0 < h) (hn : p * k < nn) (hk : 0 < k) (ho : p * k % 2 = 1) (hs : Ps (p * k)) : False := by
 unfold one at h1
 rw [Bool.and_eq_true, Bool.and_eq_true] at h1
 obtain ⟨h2, h3, h4⟩ := h1
 have h2 : h ≤ 2147488281 := bleN.1 h2
 have h3 : Nat.gcd h (bigM % h) = 1 := beqN.1 h3
 obtain ⟨u, hu⟩ := hd
 rcases (show u = 0 ∨ u = 1 ∨ 2 ≤ u by omega) with rfl | rfl | hu2
 ·omega
 ·rw [Nat.mul_one] at hu
  have h4 : chk (p * k) = true := by rw [← hu]; exact h4
  have hle : p ≤ p * k := Nat.le_mul_of_pos_right p hk
  exact chk_sound h4 (by omega) hn ho hs
 ·obtain ⟨t, ht, htu⟩ := exists_prime hu2
  have h5 : t ≤ u := Nat.le_of_dvd (by omega) htu
  have h6 : u ≤ 46340 := by
   rcases Nat.lt_or_ge 46340 u with h7 | h7
   ·have := Nat.mul_le_mul (show 46342 ≤ p by omega) (show 46341 ≤ u from h7)
    omega
   ·exact h7
  have h7 : t ∣ bigM := bigM_dvd ht.pos (by omega)
  have h8 : t ∣ h := Nat.dvd_trans htu ⟨p, by rw [hu, Nat.mul_comm]⟩
  have h9 := Nat.dvd_gcd h8 ((Nat.dvd_mod_iff h8).2 h7)
  rw [h3, Nat.dvd_one] at h9
  have := ht.1
  omega
theorem dvd_pred {p a e : Nat} (h : One p a e) : p ∣ a ^ e - 1 := by
 unfold One at h
 have h2 := Nat.div_add_mod (a ^ e) p
 rw [h] at h2
 exact ⟨a ^ e / p, by omega⟩
theorem dvd_pred_mod {p a e g : Nat} (h : One p a e) (hg : p ∣ g) : p ∣ a ^ e % g - 1 := by
 have h1 : a ^ e % g % p = 1 := by rw [Nat.mod_mod_of_dvd _ hg]; exact h
 have h2 := Nat.div_add_mod (a ^ e % g) p
 rw [h1] at h2
 exact ⟨a ^ e % g / p, by omega⟩
theorem oneK_sound {p k : Nat} (hp : Pr p) (hb : 46341 < p) (h : oneK bigM k = true) (hk : 2 ≤ k) (hn : p * k < nn) (ho : p * k % 2 = 1) (hs : Ps (p * k)) : False := by
 have hp0 := hp.pos
 have hpk : p ≤ p * k := Nat.le_mul_of_pos_right p (by omega)
 have hone := hs.one (by omega)
 have e1 : p * k - 1 = (p - 1) * k + (k - 1) := by
  obtain ⟨q, rfl⟩ : ∃ q, p = q + 1 := ⟨p - 1, by omega⟩
  rw [Nat.add_sub_cancel, Nat.add_mul]
  omega
 have hO : ∀ a ∈ bases, One p a (k - 1) := fun a ha => by
  have h1 := (hone a ha).dvd hp.1 ⟨k, rfl⟩
  rw [e1] at h1
  exact ((fermat1 hp (base_no hp (by omega) ha)).mul hp.1 k).sub hp.1 h1
 have o2 := hO 2 (by simp [bases])
 have o7 := hO 7 (by simp [bases])
 have o61 := hO 61 (by simp [bases])
 unfold oneK at h
 rw [fz_eq] at h
 obtain ⟨a, ha⟩ : ∃ a, a = 2 ^ (k - 1) - 1 := ⟨_, rfl⟩
 have h := (show (fz (Nat.gcd (2 ^ (k - 1) - 1) (7 ^ (k - 1) % (2 ^ (k - 1) - 1) - 1)) fun g =>
  fz (Nat.gcd g (Nat.pred (Nat.mod (Nat.pow 61 (Nat.pred k)) g))) fun g2 => fz (Nat.mod (Nat.pow (Nat.mod bigM g2) 64) g2) fun z => fz (Nat.div g2 (Nat.gcd g2 z)) fun h => left bigM h k) = true from h)
 rw [← ha, fz_eq] at h
 have da : p ∣ a := by rw [ha]; exact dvd_pred o2
 have ha0 : 0 < a := by
  have : 2 ^ 1 ≤ 2 ^ (k - 1) := Nat.pow_le_pow_right (by omega) (by omega)
  omega
 obtain ⟨g, hg⟩ : ∃ g, g = Nat.gcd a (7 ^ (k - 1) % a - 1) := ⟨_, rfl⟩
 rw [← hg] at h
 have dg : p ∣ g := by rw [hg]; exact Nat.dvd_gcd da (dvd_pred_mod o7 da)
 have hg0 : 0 < g := by rw [hg]; exact Nat.gcd_pos_of_pos_left _ ha0
 have h := (show (fz (Nat.gcd g (61 ^ (k - 1) % g - 1)) fun g2 => fz (Nat.mod (Nat.pow (Nat.mod bigM g2) 64) g2) fun z => fz (Nat.div g2 (Nat.gcd g2 z)) fun h => left bigM h k) = true from h)
 rw [fz_eq] at h
 obtain ⟨g2, hg2⟩ : ∃ g2, g2 = Nat.gcd g (61 ^ (k - 1) % g - 1) := ⟨_, rfl⟩
 rw [← hg2] at h
 have dg2 : p ∣ g2 := by rw [hg2]; exact Nat.dvd_gcd dg (dvd_pred_mod o61 dg)
 have hg20 : 0 < g2 := by rw [hg2]; exact Nat.gcd_pos_of_pos_left _ hg0
 have h := (show (fz ((bigM % g2) ^ 64 % g2) fun z => fz (Nat.div g2 (Nat.gcd g2 z)) fun h => left bigM h k) = true from h)
 rw [fz_eq] at h
 obtain ⟨z, hz⟩ : ∃ z, z = (bigM % g2) ^ 64 % g2 := ⟨_, rfl⟩
 rw [← hz] at h
 have hzp : ¬ p ∣ z := fun h1 => by
  rw [hz, Nat.dvd_mod_iff dg2] at h1
  have h2 := hp.dvd_pow h1
  rw [Nat.dvd_mod_iff dg2] at h2
  have := mc_pr hp 16 0 h2
  omega
 have h := (show (fz (g2 / Nat.gcd g2 z) fun h => left bigM h k) = true from h)
 rw [fz_eq] at h
 obtain ⟨c, hc⟩ : ∃ c, c = g2 / Nat.gcd g2 z := ⟨_, rfl⟩
 rw [← hc] at h
 have hcg : c * Nat.gcd g2 z = g2 := by rw [hc]; exact Nat.div_mul_cancel (Nat.gcd_dvd_left _ _)
 have dc : p ∣ c := by
  rw [← hcg] at dg2
  rcases hp.dvd_mul dg2 with h1 | h1
  ·exact h1
  ·exact absurd (Nat.dvd_trans h1 (Nat.gcd_dvd_right _ _)) hzp
 have hc0 : 0 < c := Nat.pos_of_ne_zero (fun h1 => by rw [h1, Nat.zero_mul] at hcg; omega)
 have hcp := Nat.le_of_dvd hc0 dc
 unfold left at h
 rw [bleF (show ¬ c ≤ 1 by omega)] at h
 cases h1 : Nat.ble c b2 with
 | true =>
  rw [h1] at h
  exact one_sound hp hb h dc hc0 hn (by omega) ho hs
 | false =>
  rw [h1] at h
  have h := (show (fz (found bigTbl k) fun d => fz (Nat.div c d) fun e => and (Nat.beq (Nat.mul d e) c) (and (one bigM d k) (one bigM e k))) = true from h)
  rw [fz_eq, fz_eq, Bool.and_eq_true, Bool.and_eq_true] at h
  obtain ⟨h2, h3, h4⟩ := h
  have h2 : found bigTbl k * (c / found bigTbl k) = c := beqN.1 h2
  generalize found bigTbl k = d at h2 h3 h4
  have h4 : one bigM (c / d) k = true := h4
  generalize c / d = e at h2 h4
  have hd0 : 0 < d := Nat.pos_of_ne_zero (fun h => by subst h; rw [Nat.zero_mul] at h2; omega)
  have he0 : 0 < e := Nat.pos_of_ne_zero (fun h => by subst h; rw [Nat.mul_zero] at h2; omega)
  rw [← h2] at dc
  rcases hp.dvd_mul dc with h5 | h5
  ·exact one_sound hp hb h3 h5 hd0 hn (by omega) ho hs
  ·exact one_sound hp hb h4 h5 he0 hn (by omega) ho hs
end Go.Proofs.YtkjlfjnncdkmlaaGreat.PN
