/- Helpers and walks, in one text. -/
import Derived.Test.YtkjlfjnncdkmlaaGreatPA4
import Derived.Test.YtkjlfjnncdkmlaaGreatPNa
import Derived.Test.YtkjlfjnncdkmlaaGreatPN8
set_option linter.all false
set_option maxRecDepth 100000
set_option maxHeartbeats 40000000
/- Wide integers: helpers and walks, in one text (KA1 KA2 KA3 KA4 KA5 KA6 KA7). -/
/- Plain: what the rule of Euclid leaves; walks: residues. -/
namespace Go.Proofs.YtkjlfjnncdkmlaaGreat
section
open Go.RowKit
def invX (r s : Nat) (x y : Int) : Int := if _h : s = 0 then x else invX s (r % s) y (wrap64 (x - wrap64 (((r / s : Nat) : Int) * y)))
termination_by s
decreasing_by exact Nat.mod_lt _ (Nat.pos_of_ne_zero (by assumption))
theorem invX_step (r s : Nat) (x y : Int) (h : s ≠ 0) : invX r s x y = invX s (r % s) y (wrap64 (x - wrap64 (((r / s : Nat) : Int) * y))) := by
 rw [invX, dif_neg h]
theorem invX_end (r : Nat) (x y : Int) : invX r 0 x y = x := by rw [invX]; simp
theorem dvdM {m b : Int} (k : Int) (h : m ∣ b) : m ∣ k * b := by
 obtain ⟨c, rfl⟩ := h
 exact ⟨k * c, Int.mul_left_comm _ _ _⟩
theorem invX_spec {m a : Nat} (hm : m < 4294967296) : ∀ (n s r U V : Nat) (x y : Int), s ≤ n → s < r → V * r + U * s = m → U ≤ m → ((x = -(U : Int) ∧ y = (V : Int)) ∨ (x = (U : Int) ∧ y = -(V : Int))) →
  (m : Int) ∣ x * a - r → (m : Int) ∣ y * a - s → ∃ u : Int, invX r s x y = u ∧ -(m : Int) ≤ u ∧ u ≤ m ∧ (m : Int) ∣ u * a - (Nat.gcd r s : Nat) := by
 intro n
 induction n with
 | zero =>
  intro s r U V x y h1 h2 h3 h4 h5 h6 h7
  obtain rfl : s = 0 := by omega
  refine ⟨x, invX_end _ _ _, ?_, ?_, by rw [Nat.gcd_zero_right]; exact h6⟩ <;> omega
 | succ n ih =>
  intro s r U V x y h1 h2 h3 h4 h5 h6 h7
  by_cases hs : s = 0
  ·subst hs
   refine ⟨x, invX_end _ _ _, ?_, ?_, by rw [Nat.gcd_zero_right]; exact h6⟩ <;> omega
  ·obtain ⟨k, hk⟩ : ∃ k, k = r / s := ⟨_, rfl⟩
   obtain ⟨t, ht⟩ : ∃ t, t = r % s := ⟨_, rfl⟩
   have hdm : s * k + t = r := by rw [hk, ht]; exact Nat.div_add_mod r s
   have hts : t < s := by rw [ht]; exact Nat.mod_lt _ (by omega)
   obtain ⟨W, hW⟩ : ∃ W, W = k * V := ⟨_, rfl⟩
   have hVs : (U + W) * s + V * t = m := by
    rw [← h3, ← hdm, hW, Nat.add_mul, Nat.mul_add]
    have : k * V * s = V * (s * k) := by simp only [Nat.mul_comm, Nat.mul_left_comm]
    omega
   have hUW : U + W ≤ m := by
    have : (U + W) * 1 ≤ (U + W) * s := Nat.mul_le_mul_left _ (by omega)
    omega
   have hV : V ≤ m := by
    have : V * 1 ≤ V * r := Nat.mul_le_mul_left _ (by omega)
    omega
   have e1 : ((k : Nat) : Int) * y = (if y = (V : Int) then (W : Int) else -(W : Int)) := by
    rcases h5 with ⟨_, h5⟩ | ⟨_, h5⟩
    ·rw [if_pos h5, h5, hW]; simp
    ·by_cases h0 : V = 0
     ·rw [h5, hW, h0]; simp
     ·rw [if_neg (by omega), h5, hW, Int.mul_neg]; simp
   have e2 : wrap64 (((k : Nat) : Int) * y) = ((k : Nat) : Int) * y := by
    rw [e1]
    split <;> exact IntWalk.wrap64_in _ (by omega)
   have hnew : ∃ z : Int, z = x - ((k : Nat) : Int) * y ∧ ((y = -(V : Int) ∧ z = ((U + W : Nat) : Int)) ∨ (y = (V : Int) ∧ z = -((U + W : Nat) : Int))) := by
    refine ⟨_, rfl, ?_⟩
    rcases h5 with ⟨h5, h6⟩ | ⟨h5, h6⟩
    ·refine Or.inr ⟨h6, ?_⟩
     rw [e1, if_pos h6]; omega
    ·refine Or.inl ⟨h6, ?_⟩
     by_cases h0 : V = 0
     ·have : W = 0 := by rw [hW, h0]; simp
      rw [e1, this]; split <;> omega
     ·rw [e1, if_neg (by omega)]; omega
   obtain ⟨z, hz, hz2⟩ := hnew
   have e3 : wrap64 (x - wrap64 (((r / s : Nat) : Int) * y)) = z := by
    rw [← hk, e2, ← hz]
    exact IntWalk.wrap64_in _ (by omega)
   rw [invX_step r s x y hs, e3, ← ht]
   obtain ⟨u, q1, q2, q3, q4⟩ := ih t s V (U + W) y z (by omega) hts hVs hV (by omega) h7 (by
    have h8 := Int.dvd_sub h6 (dvdM (k : Int) h7)
    have e4 : x * a - r - (k : Int) * (y * a - s) = z * a - t := by
     have e5 : ((s * k + t : Nat) : Int) = (r : Int) := by rw [hdm]
     rw [Int.natCast_add, Int.natCast_mul] at e5
     rw [hz, ← e5, Int.mul_sub, Int.sub_mul, Int.mul_comm (s : Int), Int.mul_assoc]
     omega
    rwa [e4] at h8)
   refine ⟨u, q1, q2, q3, ?_⟩
   rwa [show Nat.gcd s t = Nat.gcd r s by rw [ht, Nat.gcd_comm s, ← Nat.gcd_rec, Nat.gcd_comm]] at q4
theorem inv_val {m a x : Nat} (hm : m < 4294967296) (h2 : 2 ≤ m) (ha : a < m) (hx : x < m) (h : a * x % m = 1) :
  Nat.gcd m a = 1 ∧ ((invX m a 0 1 < 0 ∧ invX m a 0 1 + (m : Int) = (x : Int)) ∨ (¬ invX m a 0 1 < 0 ∧ invX m a 0 1 = (x : Int))) := by
 have hg : Nat.gcd m a = 1 := by
  obtain ⟨g, hg⟩ : ∃ g, g = Nat.gcd m a := ⟨_, rfl⟩
  have g1 : g ∣ m := by rw [hg]; exact Nat.gcd_dvd_left _ _
  have g2 : g ∣ a * x := Nat.dvd_trans (by rw [hg]; exact Nat.gcd_dvd_right _ _) ⟨x, rfl⟩
  have g3 : g ∣ a * x % m := (Nat.dvd_mod_iff g1).2 g2
  rw [h, Nat.dvd_one] at g3
  rw [← hg, g3]
 obtain ⟨u, q1, q2, q3, q4⟩ := invX_spec (m := m) (a := a) hm a a m 0 1 0 1 (Nat.le_refl _) ha (by omega) (by omega) (Or.inl ⟨rfl, rfl⟩) ⟨-1, by omega⟩ ⟨0, by omega⟩
 rw [hg] at q4
 rw [q1]
 refine ⟨hg, ?_⟩
 have hx0 : x ≠ 0 := fun h0 => by rw [h0, Nat.mul_zero, Nat.zero_mod] at h; omega
 -- u = x modulo m
 have q5 : (m : Int) ∣ (a : Int) * x - 1 := by
  have h3 := Nat.div_add_mod (a * x) m
  rw [h] at h3
  refine ⟨((a * x / m : Nat) : Int), ?_⟩
  have : ((m * (a * x / m) + 1 : Nat) : Int) = ((a * x : Nat) : Int) := by rw [h3]
  rw [Int.natCast_add, Int.natCast_mul, Int.natCast_mul] at this
  omega
 have q6 : (m : Int) ∣ u - x := by
  have h3 := Int.dvd_sub (dvdM u q5) (dvdM (x : Int) q4)
  have e : u * ((a : Int) * x - 1) - (x : Int) * (u * a - ((1 : Nat) : Int)) = -(u - x) := by
   rw [Int.mul_sub, Int.mul_sub, show u * ((a : Int) * x) = (x : Int) * (u * a) by rw [← Int.mul_assoc, Int.mul_comm]]
   simp
   omega
  rw [e] at h3
  exact Int.dvd_neg.1 h3
 obtain ⟨c, hc⟩ := q6
 have hm0 : (0 : Int) < m := by omega
 rcases Int.lt_or_le c (-1) with h3 | h3
 ·have : (m : Int) * c ≤ (m : Int) * (-2) := Int.mul_le_mul_of_nonneg_left (by omega) (by omega)
  omega
 ·rcases Int.lt_or_le 0 c with h4 | h4
  ·have : (m : Int) * 1 ≤ (m : Int) * c := Int.mul_le_mul_of_nonneg_left (by omega) (by omega)
   omega
  ·rcases (show c = -1 ∨ c = 0 by omega) with rfl | rfl
   ·left; omega
   ·right; omega
end
/- Walks: the program's calculation with residues, in range. -/
section
open Go.RowKit Go.Shelf
def U32Ok (x : Nat) (w : World) (e : Ending) (w' : World) : Prop := e = .returned (.tuple #[.int .u32 (x : Int), .int .i64 0]) ∧ Below w.heap.size w w'
theorem fits1 {a n : Nat} (ha : a < n) (h2 : 2 ≤ n) (hn : n ≤ 2147483647) : fitsB n [a] = true := by unfold fitsB; simp; omega
theorem Inverse_in (a n x : Nat) (ha : a < n) (h2 : 2 ≤ n) (hn : n ≤ 2147483647) (hx : x < n) (hax : a * x % n = 1) (w : World) :
  Calls Tryz.prog 44 #[.int .u32 (a : Int), .int .u32 (n : Int)] w (U32Ok x w) := by
 have hF : ∀ W v, W.reads (w.heap.size + 1) v ([a].map u32V) → Calls Tryz.prog 70 #[.int .u32 (n : Int), v] W fun e w' => e = .returned (.bool true) ∧ W = w' := fun W v h => by
  have := fits_any n v [a] _ W h
  rwa [fits1 ha h2 hn] at this
 have HF := Lib.hid hF
 obtain ⟨hg, hiv⟩ := inv_val (by omega) h2 ha hx hax
 have HG := Lib.hid hg
 have HIV := Lib.hid hiv
 clear hF hg hiv hax
 go_enter Tryz.func44, Tryz.ntmps44
 go_wp2_with fail
 (with_reducible refine (HF.out _ _ (reads_alloc_new w [u32V a] 22 1 (by simp) (by simp [maxLen]))).mono ?_)
 rintro e w1 ⟨rfl, rfl⟩
 clear HF
 go_wp2
 go_loop [6, 7, 8, 9] (fun r s x y => ∃ (rn sn : Nat) (xn yn : Int), rn < 4294967296 ∧ sn < 4294967296 ∧ r = .int .i64 (rn : Int) ∧ s = .int .i64 (sn : Int) ∧ x = .int .i64 xn ∧ y = .int .i64 yn ∧ Hid (Nat.gcd rn sn = 1) ∧ Hid (invX rn sn xn yn = invX n a 0 1)) (fun _ s _ _ => (intOf s).toNat)
 case atStart => exact ⟨n, a, 0, 1, by omega, by omega, rfl, rfl, rfl, rfl, HG.out, rfl⟩
 case round =>
  obtain ⟨r, s, u, y, hr, hs, rfl, rfl, rfl, rfl, hgcd, hinv⟩ := hrel
  by_cases hs0 : s = 0
  ·have t0 : ((s : Int) != 0) = false := by rw [hs0]; rfl
   have hgr : r = 1 := by have := hgcd.out; rw [hs0, Nat.gcd_zero_right] at this; exact this
   have hxe : u = invX n a 0 1 := by have := hinv.out; rw [hs0, invX_end] at this; exact this
   have hiv := HIV.out
   rw [← hxe] at hiv
   have t1 : ((r : Int) != 1) = false := by rw [hgr]; rfl
   clear hgcd hinv hs0 hgr hxe
   rcases hiv with ⟨h1, h3⟩ | ⟨h1, h3⟩
   ·have h5 : (u + (n : Int)) % 4294967296 = (x : Int) := by omega
    go_wp2
    go_ret2
    exact ⟨rfl, (Below.refl _ _).alloc (Nat.le_refl _) _⟩
   ·have h5 : u % 4294967296 = (x : Int) := by omega
    go_wp2
    go_ret2
    exact ⟨rfl, (Below.refl _ _).alloc (Nat.le_refl _) _⟩
  ·have t0 : ((s : Int) != 0) = true := by rw [bne_iff_ne]; omega
   obtain ⟨k, hk⟩ : ∃ k, k = r / s := ⟨_, rfl⟩
   obtain ⟨t, ht⟩ : ∃ t, t = r % s := ⟨_, rfl⟩
   have hkr : k ≤ r := by rw [hk]; exact Nat.div_le_self _ _
   have hts : t < s := by rw [ht]; exact Nat.mod_lt _ (by omega)
   have hdm : s * k + t = r := by rw [hk, ht]; exact Nat.div_add_mod r s
   obtain ⟨ks, hks⟩ : ∃ ks, ks = k * s := ⟨_, rfl⟩
   have e0 : (r : Int) / (s : Int) = (k : Int) := by rw [hk]; simp
   have e1 : (k : Int) * (s : Int) = (ks : Int) := by rw [hks]; simp
   have e2 : (r : Int) - (ks : Int) = (t : Int) := by rw [hks, Nat.mul_comm]; omega
   have hks2 : ks ≤ r := by rw [hks, Nat.mul_comm]; omega
   have HK := Lib.hid hk
   have HT := Lib.hid ht
   have hs1 : 0 < s := by omega
   clear hk ht hks hdm hs0
   go_wp2
   refine ⟨⟨s, t, y, _, hs, by omega, rfl, rfl, rfl, rfl, ?_, ?_⟩, by simp [intOf]; omega⟩
   ·show Nat.gcd s t = _
    rw [← hgcd.out, HT.out, Nat.gcd_comm s, ← Nat.gcd_rec, Nat.gcd_comm]
   ·show invX s t y _ = _
    rw [← hinv.out, invX_step r s u y (by omega), HT.out, HK.out]
end
/- Walks: the reference's calculation with residues, in range. -/
section
open Go.RowKit Go.Shelf
theorem modulus01_in (n : Nat) (h2 : 2 ≤ n) (hn : n ≤ 2147483647) (w : World) : Calls Tryz.prog 82 #[.int .u32 (n : Int)] w fun e w' => e = .returned (.bool true) ∧ w = w' := by
 go_enter Tryz.func82, Tryz.ntmps82
 go_wp2
 go_ret
 exact ⟨ret_bool (by rw [decide_eq_true_eq]; omega), rfl⟩
theorem times01 (a b n : Nat) (ha : a < 4294967296) (hb : b < 4294967296) (h0 : 0 < n) (hn : n < 4294967296) (w : World) :
  Calls Tryz.prog 84 #[.int .u32 (a : Int), .int .u32 (b : Int), .int .u32 (n : Int)] w fun e w' => e = .returned (.int .u32 ((a * b % n : Nat) : Int)) ∧ w = w' := by
 have hm := Nat.mod_lt (a * b) h0
 have hab : a * b ≤ 4294967295 * 4294967295 := Nat.mul_le_mul (by omega) (by omega)
 obtain ⟨m, em⟩ : ∃ m, m = a * b := ⟨_, rfl⟩
 have e1 : IntKind.u64.wrap ((a : Int) * (b : Int)) = (m : Int) := by
  rw [show ((a : Int) * (b : Int)) = (m : Int) by rw [em]; simp, IntKind.wrap_u64]; omega
 rw [← em] at hm hab ⊢
 obtain ⟨x, ex⟩ : ∃ x, x = m % n := ⟨_, rfl⟩
 have e2 : (m : Int) % (n : Int) = (x : Int) := by rw [ex]; simp
 have e4 : ((n : Int) == 0) = false := by rw [beq_eq_false_iff_ne]; omega
 rw [← ex] at hm ⊢
 have e5 : (x : Int) % 4294967296 = (x : Int) := by omega
 clear em ex
 go_enter Tryz.func84, Tryz.ntmps84
 go_wp2
 go_ret
 exact ⟨rfl, rfl⟩
theorem Mul01_in (a b n : Nat) (ha : a < n) (hb : b < n) (h2 : 2 ≤ n) (hn : n ≤ 2147483647) (w : World) :
  Calls Tryz.prog 59 #[.int .u32 (a : Int), .int .u32 (b : Int), .int .u32 (n : Int)] w (U32Ok (a * b % n) w) := by
 have HF := Lib.hid (fun W => modulus01_in n h2 hn W)
 have HT := Lib.hid (fun W => times01 a b n (by omega) (by omega) (by omega) (by omega) W)
 obtain ⟨x, ex⟩ : ∃ x, x = a * b % n := ⟨_, rfl⟩
 rw [← ex] at HT ⊢
 clear ex
 go_enter Tryz.func59, Tryz.ntmps59
 go_wp2_with fail
 (with_reducible refine (HF.out _).mono ?_)
 rintro e w1 ⟨rfl, rfl⟩
 go_wp2_with fail
 (with_reducible refine (HT.out _).mono ?_)
 rintro e w1 ⟨rfl, rfl⟩
 go_wp2
 go_ret2
 exact ⟨rfl, Below.refl _ _⟩
theorem Sub01_in (a b n : Nat) (ha : a < n) (hb : b < n) (h2 : 2 ≤ n) (hn : n ≤ 2147483647) (w : World) :
  Calls Tryz.prog 58 #[.int .u32 (a : Int), .int .u32 (b : Int), .int .u32 (n : Int)] w (U32Ok ((a + n - b) % n) w) := by
 have HF := Lib.hid (fun W => modulus01_in n h2 hn W)
 have hm := Nat.mod_lt (a + n - b) (show 0 < n by omega)
 obtain ⟨m, em⟩ : ∃ m, m = a + n - b := ⟨_, rfl⟩
 have e1 : ((a : Int) + (n : Int)) - (b : Int) = (m : Int) := by omega
 rw [← em] at hm ⊢
 have hmb : m < 4294967296 := by omega
 obtain ⟨x, ex⟩ : ∃ x, x = m % n := ⟨_, rfl⟩
 have e2 : (m : Int) % (n : Int) = (x : Int) := by rw [ex]; simp
 have e4 : ((n : Int) == 0) = false := by rw [beq_eq_false_iff_ne]; omega
 rw [← ex] at hm ⊢
 have e5 : (x : Int) % 4294967296 = (x : Int) := by omega
 clear em ex
 go_enter Tryz.func58, Tryz.ntmps58
 go_wp2_with fail
 (with_reducible refine (HF.out _).mono ?_)
 rintro e w1 ⟨rfl, rfl⟩
 go_wp2
 go_ret2
 exact ⟨rfl, Below.refl _ _⟩
theorem tmod_cases (v : Int) (n x : Nat) (h2 : 2 ≤ n) (hx : v % (n : Int) = (x : Int)) : ∃ r : Int, v.tmod n = r ∧ -(n : Int) < r ∧ r < n ∧ x < n ∧ ((r < 0 ∧ r + n = x) ∨ (¬ r < 0 ∧ r = x)) := by
 have hxn : x < n := by have := Int.emod_lt_of_pos v (show (0 : Int) < n by omega); omega
 refine ⟨v.tmod n, rfl, ?_⟩
 obtain ⟨r, hr⟩ : ∃ r, r = v.tmod n := ⟨_, rfl⟩
 rw [← hr]
 have hr1 : -(n : Int) < r ∧ r < n := by
  rw [hr]
  have h1 := Int.tmod_lt_of_pos v (show (0 : Int) < n by omega)
  have h2 := Int.tmod_lt_of_pos (-v) (show (0 : Int) < n by omega)
  rw [Int.neg_tmod] at h2
  omega
 refine ⟨hr1.1, hr1.2, hxn, ?_⟩
 have h1 : (n : Int) ∣ v - r := by
  rw [hr]
  have := Int.mul_tdiv_add_tmod v n
  exact ⟨v.tdiv n, by omega⟩
 have h2 : (n : Int) ∣ v - x := by
  have := Int.mul_ediv_add_emod v n
  rw [hx] at this
  exact ⟨v / n, by omega⟩
 have h3 := Int.dvd_sub h1 h2
 rw [show v - r - (v - x) = (x : Int) - r by omega] at h3
 obtain ⟨c, hc⟩ := h3
 rcases Int.lt_or_le c 0 with h4 | h4
 ·have : (n : Int) * c ≤ (n : Int) * (-1) := Int.mul_le_mul_of_nonneg_left (by omega) (by omega)
  rw [Int.mul_neg, Int.mul_one] at this
  omega
 ·rcases Int.lt_or_le 1 c with h5 | h5
  ·have : (n : Int) * 2 ≤ (n : Int) * c := Int.mul_le_mul_of_nonneg_left (by omega) (by omega)
   omega
  ·rcases (show c = 0 ∨ c = 1 by omega) with rfl | rfl
   ·rcases Int.lt_or_le r 0 with h6 | h6 <;> omega
   ·rcases Int.lt_or_le r 0 with h6 | h6 <;> omega
theorem Of01_in (v : Int) (n : Nat) (hv : -9223372036854775808 ≤ v ∧ v < 9223372036854775808) (h2 : 2 ≤ n) (hn : n ≤ 2147483647) (x : Nat) (hx : v % (n : Int) = (x : Int)) (w : World) :
  Calls Tryz.prog 83 #[.int .i64 v, .int .u32 (n : Int)] w fun e w' => e = .returned (.tuple #[.int .u32 (x : Int), .int .i64 0]) ∧ w = w' := by
 have HF := Lib.hid (fun W => modulus01_in n h2 hn W)
 have e4 : ((n : Int) == 0) = false := by rw [beq_eq_false_iff_ne]; omega
 have hn0 : ¬ (n : Int) = 0 := by omega
 obtain ⟨r, hrv, hr0, hr1, hxn, hr2⟩ := tmod_cases v n x h2 hx
 clear hx
 rcases hr2 with ⟨h1, h3⟩ | ⟨h1, h3⟩
 ·have h5 : (r + (n : Int)) % 4294967296 = (x : Int) := by omega
  go_enter Tryz.func83, Tryz.ntmps83
  go_wp2_with fail
  (with_reducible refine (HF.out _).mono ?_)
  rintro e w1 ⟨rfl, rfl⟩
  go_wp2
  go_ret2
  exact ⟨rfl, rfl⟩
 ·have h5 : r % 4294967296 = (x : Int) := by omega
  go_enter Tryz.func83, Tryz.ntmps83
  go_wp2_with fail
  (with_reducible refine (HF.out _).mono ?_)
  rintro e w1 ⟨rfl, rfl⟩
  go_wp2
  go_ret2
  exact ⟨rfl, rfl⟩
theorem Inverse01_in (a n x : Nat) (ha : a < n) (h2 : 2 ≤ n) (hn : n ≤ 2147483647) (hx : x < n) (hax : a * x % n = 1) (w : World) :
  Calls Tryz.prog 57 #[.int .u32 (a : Int), .int .u32 (n : Int)] w (U32Ok x w) := by
 have HF := Lib.hid (fun W => modulus01_in n h2 hn W)
 obtain ⟨hg, hiv⟩ := inv_val (by omega) h2 ha hx hax
 have HG := Lib.hid hg
 have HIV := Lib.hid hiv
 clear hg hiv hax
 go_enter Tryz.func57, Tryz.ntmps57
 go_wp2_with fail
 (with_reducible refine (HF.out _).mono ?_)
 rintro e w1 ⟨rfl, rfl⟩
 go_wp2_with fail
 go_loop [6, 7, 8, 9] (fun r s x y => ∃ (rn sn : Nat) (xn yn : Int), rn < 4294967296 ∧ sn < 4294967296 ∧ r = .int .i64 (rn : Int) ∧ s = .int .i64 (sn : Int) ∧ x = .int .i64 xn ∧ y = .int .i64 yn ∧ Hid (Nat.gcd rn sn = 1) ∧ Hid (invX rn sn xn yn = invX n a 0 1)) (fun _ s _ _ => (intOf s).toNat)
 case atStart => exact ⟨n, a, 0, 1, by omega, by omega, rfl, rfl, rfl, rfl, HG.out, rfl⟩
 case round =>
  obtain ⟨r, s, u, y, hr, hs, rfl, rfl, rfl, rfl, hgcd, hinv⟩ := hrel
  by_cases hs0 : s = 0
  ·subst hs0
   have hgr : r = 1 := by have := hgcd.out; rw [Nat.gcd_zero_right] at this; exact this
   have hxe : u = invX n a 0 1 := by have := hinv.out; rw [invX_end] at this; exact this
   have hiv := HIV.out
   rw [← hxe] at hiv
   have t1 : ((r : Int) != 1) = false := by rw [hgr]; rfl
   have hub : -9223372036854775808 ≤ u ∧ u < 9223372036854775808 := by omega
   have hum : u % (n : Int) = (x : Int) := by
    rcases hiv with ⟨h1, h3⟩ | ⟨h1, h3⟩
    ·rw [← Int.add_emod_right, h3]; exact Int.emod_eq_of_lt (by omega) (by omega)
    ·rw [h3]; exact Int.emod_eq_of_lt (by omega) (by omega)
   have HOF := Lib.hid (fun W => Of01_in u n hub h2 hn x hum W)
   clear hgcd hinv hgr hxe hum hiv hub
   go_wp2_with fail
   (with_reducible refine (HOF.out _).mono ?_)
   rintro e w1 ⟨rfl, rfl⟩
   go_wp2
   go_ret2
   exact ⟨rfl, Below.refl _ _⟩
  ·obtain ⟨k, hk⟩ : ∃ k, k = r / s := ⟨_, rfl⟩
   obtain ⟨t, ht⟩ : ∃ t, t = r % s := ⟨_, rfl⟩
   have t0 : (0 : Int) < (s : Int) := by omega
   have t0' : ((s : Int) == 0) = false := by rw [beq_eq_false_iff_ne]; omega
   have hkr : k ≤ r := by rw [hk]; exact Nat.div_le_self _ _
   have hts : t < s := by rw [ht]; exact Nat.mod_lt _ (by omega)
   have hdm : s * k + t = r := by rw [hk, ht]; exact Nat.div_add_mod r s
   obtain ⟨ks, hks⟩ : ∃ ks, ks = k * s := ⟨_, rfl⟩
   have e0 : (r : Int) / (s : Int) = (k : Int) := by rw [hk]; simp
   have e1 : (k : Int) * (s : Int) = (ks : Int) := by rw [hks]; simp
   have e2 : (r : Int) - (ks : Int) = (t : Int) := by rw [hks, Nat.mul_comm]; omega
   have hks2 : ks ≤ r := by rw [hks, Nat.mul_comm]; omega
   have HK := Lib.hid hk
   have HT := Lib.hid ht
   have hs1 : 0 < s := by omega
   clear hk ht hks hdm hs0
   go_wp2
   refine ⟨⟨s, t, y, _, hs, by omega, rfl, rfl, rfl, rfl, ?_, ?_⟩, by simp [intOf]; omega⟩
   ·show Nat.gcd s t = _
    rw [← hgcd.out, HT.out, Nat.gcd_comm s, ← Nat.gcd_rec, Nat.gcd_comm]
   ·show invX s t y _ = _
    rw [← hinv.out, invX_step r s u y (by omega), HT.out, HK.out]
end
/- Walks: powers; strong tests; whether a number is a prime. -/
section
open Go.RowKit Go.Shelf PN
def PwSt (a E n x e o : Nat) : Prop := x < n ∧ o < n ∧ o * x ^ e % n = a ^ E % n
theorem PwSt.start {a E n : Nat} (ha : a < n) (hn : 2 ≤ n) : PwSt a E n a E 1 := ⟨ha, by omega, by rw [Nat.one_mul]⟩
theorem PwSt.even {a E n x e o : Nat} (h : PwSt a E n x e o) (he : e % 2 = 0) : PwSt a E n (x * x % n) (e / 2) o := by
 obtain ⟨h1, h2, h3⟩ := h
 refine ⟨Nat.mod_lt _ (by omega), h2, ?_⟩
 rw [← h3, Nat.mul_mod, ← Nat.pow_mod, ← Nat.mul_mod, ← Nat.pow_two, ← Nat.pow_mul]
 congr 3; omega
theorem PwSt.odd {a E n x e o : Nat} (h : PwSt a E n x e o) (he : e % 2 = 1) : PwSt a E n (x * x % n) (e / 2) (o * x % n) := by
 obtain ⟨h1, h2, h3⟩ := h
 refine ⟨Nat.mod_lt _ (by omega), Nat.mod_lt _ (by omega), ?_⟩
 rw [← h3, Nat.mul_mod, ← Nat.pow_mod, Nat.mod_mod, ← Nat.mul_mod, ← Nat.pow_two, ← Nat.pow_mul, Nat.mul_assoc, ← Nat.pow_succ']
 congr 3; omega
theorem PwSt.fin {a E n x o : Nat} (h : PwSt a E n x 0 o) : o = a ^ E % n := by
 obtain ⟨h1, h2, h3⟩ := h
 rw [Nat.pow_zero, Nat.mul_one, Nat.mod_eq_of_lt h2] at h3
 exact h3
theorem and1_64 (y : Nat) (hy : y < 18446744073709551616) : bits .and .u64 (y : Int) 1 = ((y % 2 : Nat) : Int) := by
 show IntKind.u64.wrap ((BitVec.ofInt 64 _ &&& BitVec.ofInt 64 _).toNat : Int) = _
 rw [BitVec.ofInt_natCast, show (1 : Int) = ((1 : Nat) : Int) by rfl, BitVec.ofInt_natCast, BitVec.toNat_and, BitVec.toNat_ofNat, BitVec.toNat_ofNat, Nat.mod_eq_of_lt (by omega), Nat.mod_eq_of_lt (by omega), Nat.and_one_is_mod, IntKind.wrap_u64]
 omega
theorem and1_32 (y : Nat) (hy : y < 4294967296) : bits .and .u32 (y : Int) 1 = ((y % 2 : Nat) : Int) := by
 show IntKind.u32.wrap ((BitVec.ofInt 32 _ &&& BitVec.ofInt 32 _).toNat : Int) = _
 rw [BitVec.ofInt_natCast, show (1 : Int) = ((1 : Nat) : Int) by rfl, BitVec.ofInt_natCast, BitVec.toNat_and, BitVec.toNat_ofNat, BitVec.toNat_ofNat, Nat.mod_eq_of_lt (by omega), Nat.mod_eq_of_lt (by omega), Nat.and_one_is_mod, IntKind.wrap_u32]
 omega
theorem prod1_any (a b n p : Nat) (ha : a < 4294967296) (hb : b < 4294967296) (h0 : 0 < n) (hn : n < 4294967296) (w : World) (hp : w.cell? ⟨p, 0, none⟩ = some (.int .u64 (n : Int))) :
  Calls Tryz.prog 106 #[.int .u32 (a : Int), .int .u32 (b : Int), .pointer (some ⟨p, 0, none⟩)] w fun e w' => e = .returned (.int .u32 ((a * b % n : Nat) : Int)) ∧ w = w' := by
 have hm := Nat.mod_lt (a * b) h0
 have hab : a * b ≤ 4294967295 * 4294967295 := Nat.mul_le_mul (by omega) (by omega)
 obtain ⟨m, em⟩ : ∃ m, m = a * b := ⟨_, rfl⟩
 have e1 : IntKind.u64.wrap ((a : Int) * (b : Int)) = (m : Int) := by
  rw [show ((a : Int) * (b : Int)) = (m : Int) by rw [em]; simp, IntKind.wrap_u64]; omega
 rw [← em] at hm hab ⊢
 obtain ⟨x, ex⟩ : ∃ x, x = m % n := ⟨_, rfl⟩
 have e2 : (m : Int) % (n : Int) = (x : Int) := by rw [ex]; simp
 have e4 : ((n : Int) == 0) = false := by rw [beq_eq_false_iff_ne]; omega
 rw [← ex] at hm ⊢
 have e5 : (x : Int) % 4294967296 = (x : Int) := by omega
 clear em ex
 go_enter Tryz.func106, Tryz.ntmps106
 go_wp2
 go_ret
 exact ⟨rfl, rfl⟩
theorem product_any (n : Nat) (hn : n < 4294967296) (w : World) :
  Calls Tryz.prog 90 #[.int .u32 (n : Int)] w fun e w' => e = .returned (.func (.func 106) #[] #[.pointer (some ⟨w.heap.size, 0, none⟩)]) ∧ w' = w.alloc (.cells #[.int .u64 (n : Int)] 67) := by
 go_enter Tryz.func90, Tryz.ntmps90
 go_wp2
 go_ret
 exact ⟨rfl, rfl⟩
theorem power_any (a E n : Nat) (ha : a < n) (h2 : 2 ≤ n) (hn : n < 4294967296) (hE : E < 18446744073709551616) (w : World) :
  Calls Tryz.prog 67 #[.int .u32 (a : Int), .int .u64 (E : Int), .int .u32 (n : Int)] w fun e w' => e = .returned (.int .u32 ((a ^ E % n : Nat) : Int)) ∧ Below w.heap.size w w' := by
 obtain ⟨R, hR⟩ : ∃ R, R = a ^ E % n := ⟨_, rfl⟩
 rw [← hR]
 have HR := Lib.hid hR
 have HP := Lib.hid (fun W => product_any n hn W)
 have HT : Hid (∀ (x y : Nat) (W : World), x < n → y < n → W.cell? ⟨w.heap.size, 0, none⟩ = some (.int .u64 (n : Int)) → Calls Tryz.prog 106 #[.int .u32 (x : Int), .int .u32 (y : Int), .pointer (some ⟨w.heap.size, 0, none⟩)] W fun e w' => e = .returned (.int .u32 ((x * y % n : Nat) : Int)) ∧ W = w') :=
  fun x y W hx hy hc => prod1_any x y n _ (by omega) (by omega) (by omega) hn W hc
 clear hR
 go_enter Tryz.func67, Tryz.ntmps67
 go_wp2_with fail
 (with_reducible refine (HP.out _).mono ?_)
 rintro e w1 ⟨rfl, rfl⟩
 have hc : (w.alloc (.cells #[.int .u64 (n : Int)] 67)).cell? ⟨w.heap.size, 0, none⟩ = some (.int .u64 (n : Int)) := by rw [cell_of_row _ _ 0 _ _ (0, 0) (heap_alloc_new w _)]; rfl
 have hb : Below w.heap.size w (w.alloc (.cells #[.int .u64 (n : Int)] 67)) := (Below.refl _ _).alloc (Nat.le_refl _) _
 generalize w.alloc (.cells #[.int .u64 (n : Int)] 67) = W at hc hb ⊢
 have HC := Lib.hid hc
 have HB := Lib.hid hb
 clear hc hb
 go_wp2_with fail
 go_loop [0, 1, 8] (fun xv ev ov => ∃ x e o : Nat, xv = .int .u32 (x : Int) ∧ ev = .int .u64 (e : Int) ∧ ov = .int .u32 (o : Int) ∧ e < 18446744073709551616 ∧ Hid (PwSt a E n x e o)) (fun _ ev _ => (intOf ev).toNat)
 case atStart => exact ⟨a, E, 1, rfl, rfl, rfl, hE, PwSt.start ha h2⟩
 case round =>
  obtain ⟨x, e, o, rfl, rfl, rfl, he, hS⟩ := hrel
  by_cases h0 : e = 0
  ·subst h0
   have hro := hS.out.fin
   rw [← HR.out] at hro
   subst hro
   go_wp2
   go_ret
   exact ⟨rfl, HB.out⟩
  ·have hpos : (0 : Int) < (e : Int) := by omega
   have hand := and1_64 e he
   have hx : x < n := hS.out.1
   have ho : o < n := hS.out.2.1
   have HTx := Lib.hid (HT.out x x W hx hx HC.out)
   have HTo := Lib.hid (HT.out o x W ho hx HC.out)
   obtain ⟨x2, ex2⟩ : ∃ z, z = x * x % n := ⟨_, rfl⟩
   obtain ⟨o2, eo2⟩ : ∃ z, z = o * x % n := ⟨_, rfl⟩
   obtain ⟨h, eh⟩ : ∃ z, z = e / 2 := ⟨_, rfl⟩
   have hh : (e : Int) / 2 = (h : Int) := by omega
   have hhlt : h < e := by omega
   rcases Nat.mod_two_eq_zero_or_one e with hpar | hpar
   ·have HN := Lib.hid (hS.out.even hpar)
    rw [hpar] at hand
    rw [← ex2, ← eh] at HN
    rw [← ex2] at HTx
    clear hS eh ex2 eo2 HTo hpar h0
    go_wp2_with fail
    (with_reducible refine (HTx.out).mono ?_)
    rintro ee w1 ⟨rfl, rfl⟩
    go_wp2
    go_round
    case rel => exact ⟨x2, h, o, rfl, rfl, rfl, by omega, HN.out⟩
    case measure => simp [intOf]; omega
   ·have HN := Lib.hid (hS.out.odd hpar)
    rw [hpar] at hand
    rw [← ex2, ← eh, ← eo2] at HN
    rw [← ex2] at HTx
    rw [← eo2] at HTo
    clear hS eh ex2 eo2 hpar h0
    go_wp2_with fail
    (with_reducible refine (HTo.out).mono ?_)
    rintro ee w1 ⟨rfl, rfl⟩
    go_wp2_with fail
    (with_reducible refine (HTx.out).mono ?_)
    rintro ee w1 ⟨rfl, rfl⟩
    go_wp2
    go_round
    case rel => exact ⟨x2, h, o2, rfl, rfl, rfl, by omega, HN.out⟩
    case measure => simp [intOf]; omega
theorem power01_any (a E n : Nat) (ha : a < n) (h2 : 2 ≤ n) (hn : n < 4294967296) (hE : E < 18446744073709551616) (w : World) :
  Calls Tryz.prog 101 #[.int .u32 (a : Int), .int .u64 (E : Int), .int .u32 (n : Int)] w fun e w' => e = .returned (.int .u32 ((a ^ E % n : Nat) : Int)) ∧ w = w' := by
 obtain ⟨R, hR⟩ : ∃ R, R = a ^ E % n := ⟨_, rfl⟩
 rw [← hR]
 have HR := Lib.hid hR
 have HT : Hid (∀ (x y : Nat) (W : World), x < n → y < n → Calls Tryz.prog 84 #[.int .u32 (x : Int), .int .u32 (y : Int), .int .u32 (n : Int)] W fun e w' => e = .returned (.int .u32 ((x * y % n : Nat) : Int)) ∧ W = w') :=
  fun x y W hx hy => times01 x y n (by omega) (by omega) (by omega) hn W
 clear hR
 go_enter Tryz.func101, Tryz.ntmps101
 go_wp2_with fail
 go_loop [0, 1, 7] (fun xv ev ov => ∃ x e o : Nat, xv = .int .u32 (x : Int) ∧ ev = .int .u64 (e : Int) ∧ ov = .int .u32 (o : Int) ∧ e < 18446744073709551616 ∧ Hid (PwSt a E n x e o)) (fun _ ev _ => (intOf ev).toNat)
 case atStart => exact ⟨a, E, 1, rfl, rfl, rfl, hE, PwSt.start ha h2⟩
 case round =>
  obtain ⟨x, e, o, rfl, rfl, rfl, he, hS⟩ := hrel
  by_cases h0 : e = 0
  ·subst h0
   have hro := hS.out.fin
   rw [← HR.out] at hro
   subst hro
   go_wp2
   go_ret
   exact ⟨rfl, rfl⟩
  ·have hpos : (0 : Int) < (e : Int) := by omega
   have hx : x < n := hS.out.1
   have ho : o < n := hS.out.2.1
   have HTx := Lib.hid (HT.out x x w hx hx)
   have HTo := Lib.hid (HT.out o x w ho hx)
   obtain ⟨x2, ex2⟩ : ∃ z, z = x * x % n := ⟨_, rfl⟩
   obtain ⟨o2, eo2⟩ : ∃ z, z = o * x % n := ⟨_, rfl⟩
   obtain ⟨h, eh⟩ : ∃ z, z = e / 2 := ⟨_, rfl⟩
   have hh : (e : Int) / 2 = (h : Int) := by omega
   have hhlt : h < e := by omega
   rcases Nat.mod_two_eq_zero_or_one e with hpar | hpar
   ·have HN := Lib.hid (hS.out.even hpar)
    have hmd : (e : Int) % 2 = 0 := by omega
    rw [← ex2, ← eh] at HN
    rw [← ex2] at HTx
    clear hS eh ex2 eo2 HTo hpar h0
    go_wp2_with fail
    (with_reducible refine (HTx.out).mono ?_)
    rintro ee w1 ⟨rfl, rfl⟩
    go_wp2
    go_round
    case rel => exact ⟨x2, h, o, rfl, rfl, rfl, by omega, HN.out⟩
    case measure => simp [intOf]; omega
   ·have HN := Lib.hid (hS.out.odd hpar)
    have hmd : (e : Int) % 2 = 1 := by omega
    rw [← ex2, ← eh, ← eo2] at HN
    rw [← ex2] at HTx
    rw [← eo2] at HTo
    clear hS eh ex2 eo2 hpar h0
    go_wp2_with fail
    (with_reducible refine (HTo.out).mono ?_)
    rintro ee w1 ⟨rfl, rfl⟩
    go_wp2_with fail
    (with_reducible refine (HTx.out).mono ?_)
    rintro ee w1 ⟨rfl, rfl⟩
    go_wp2
    go_round
    case rel => exact ⟨x2, h, o2, rfl, rfl, rfl, by omega, HN.out⟩
    case measure => simp [intOf]; omega
end
/- Walks: strong tests; whether a number is a prime. -/
section
open Go.RowKit Go.Shelf PN
theorem odd_unique : ∀ (k s d e : Nat), d * 2 ^ k = e * 2 ^ s → d % 2 = 1 → e % 2 = 1 → d = e ∧ k = s
 | 0, 0, d, e, h, _, _ => by simp at h; exact ⟨h, rfl⟩
 | 0, s + 1, d, e, h, h1, _ => by
  rw [Nat.pow_zero, Nat.mul_one, Nat.pow_succ, ← Nat.mul_assoc] at h
  omega
 | k + 1, 0, d, e, h, _, h2 => by
  rw [Nat.pow_zero, Nat.mul_one, Nat.pow_succ, ← Nat.mul_assoc] at h
  omega
 | k + 1, s + 1, d, e, h, h1, h2 => by
  rw [Nat.pow_succ, Nat.pow_succ, ← Nat.mul_assoc, ← Nat.mul_assoc] at h
  obtain ⟨h3, h4⟩ := odd_unique k s d e (by omega) h1 h2
  exact ⟨h3, by omega⟩
theorem Sp_iff {a n d k : Nat} (h : n - 1 = d * 2 ^ k) (hd : d % 2 = 1) : Sp a n ↔ (a ^ d % n = 1 ∨ ∃ r, r < k ∧ a ^ (d * 2 ^ r) % n = n - 1) := by
 constructor
 ·rintro ⟨d', s, h1, h2, h3⟩
  obtain ⟨rfl, rfl⟩ := odd_unique k s d d' (by rw [← h, h1]) hd h2
  exact h3
 ·intro h3
  exact ⟨d, k, h, hd, h3⟩
theorem sq_pow (a d r n : Nat) : a ^ (d * 2 ^ r) % n * (a ^ (d * 2 ^ r) % n) % n = a ^ (d * 2 ^ (r + 1)) % n := by
 rw [← Nat.mul_mod, ← Nat.pow_add, Nat.pow_succ, ← Nat.mul_assoc]
 congr 2; omega
theorem em_bool (P : Prop) : ∃ b : Bool, b = true ↔ P := by
 rcases Classical.em P with h | h
 ·exact ⟨true, fun _ => h, fun _ => rfl⟩
 ·exact ⟨false, fun h2 => (by cases h2), fun h2 => absurd h2 h⟩
theorem passes_any (a n : Nat) (ha : a < 4294967296) (h2 : 2 < n) (ho : n % 2 = 1) (hn : n < 4294967296) (b : Bool) (hb : b = true ↔ Sp a n) (w : World) :
  Calls Tryz.prog 41 #[.int .u32 (a : Int), .int .u32 (n : Int)] w fun e w' => e = .returned (.bool b) ∧ Below w.heap.size w w' := by
 have HB := Lib.hid hb
 obtain ⟨a1, ea1⟩ : ∃ z, z = a % n := ⟨_, rfl⟩
 have ha1 : a1 < n := by rw [ea1]; exact Nat.mod_lt _ (by omega)
 have HA1 := Lib.hid ea1
 have hm : (a : Int) % (n : Int) = (a1 : Int) := by rw [ea1]; simp
 have hn0 : ((n : Int) == 0) = false := by rw [beq_eq_false_iff_ne]; omega
 obtain ⟨m, em⟩ : ∃ m, m = n - 1 := ⟨_, rfl⟩
 have em1 : (n : Int) - 1 = (m : Int) := by omega
 have HM : Hid (m = n - 1) := em
 have hmlt : m < 4294967296 := by omega
 have hm2 : 2 ≤ m := by omega
 clear hb ea1 em
 go_enter Tryz.func41, Tryz.ntmps41
 go_wp2_with fail
 go_loop [5, 6] (fun dv kv => ∃ d k : Nat, dv = .int .u32 (d : Int) ∧ kv = .int .i64 (k : Int) ∧ 0 < d ∧ d < 4294967296 ∧ k ≤ 4294967296 - d ∧ Hid (m = d * 2 ^ k)) (fun dv _ => (intOf dv).toNat)
 case atStart => exact ⟨m, 0, rfl, rfl, by omega, hmlt, by omega, by show _ = _; simp⟩
 case round =>
  obtain ⟨d, k, rfl, rfl, hd0, hdl, hk, hS⟩ := hrel
  have hand := and1_32 d hdl
  rcases Nat.mod_two_eq_zero_or_one d with hpar | hpar
  ·rw [hpar] at hand
   obtain ⟨h, eh⟩ : ∃ z, z = d / 2 := ⟨_, rfl⟩
   have hh : (d : Int) / 2 = (h : Int) := by omega
   have hS2 : Hid (m = h * 2 ^ (k + 1)) := by
    show _ = _
    rw [hS.out, Nat.pow_succ', ← Nat.mul_assoc]
    congr 1; omega
   have hh0 : 0 < h := by omega
   have hhd : h < d := by omega
   clear eh hS hpar
   go_wp2_with fail
   go_round
   case rel => exact ⟨h, k + 1, rfl, by go_num, hh0, by omega, by omega, hS2.out⟩
   case measure => simp [intOf]; omega
  ·rw [hpar] at hand
   have hiff := Sp_iff (a := a) (n := n) (d := d) (k := k) (by rw [← HM.out]; exact hS.out) hpar
   have HIFF := Lib.hid hiff
   have hk1 : 1 ≤ k := by
    rcases Nat.eq_zero_or_pos k with h | h
    ·have h3 := hS.out
     rw [h, Nat.pow_zero, Nat.mul_one] at h3
     have := HM.out
     omega
    ·exact h
   have hpw : ∀ r, a1 ^ r % n = a ^ r % n := fun r => by rw [HA1.out, ← Nat.pow_mod]
   have hpow := fun W => power_any a1 d n ha1 (by omega) hn (by omega) W
   rw [hpw] at hpow
   obtain ⟨x, ex⟩ : ∃ x, x = a ^ d % n := ⟨_, rfl⟩
   have hxn : x < n := by rw [ex]; exact Nat.mod_lt _ (by omega)
   have hpow2 : ∀ W : World, Calls Tryz.prog 67 #[.int .u32 (a1 : Int), .int .u64 (d : Int), .int .u32 (n : Int)] W fun e w' => e = .returned (.int .u32 (x : Int)) ∧ Below W.heap.size W w' := fun W => by rw [ex]; exact hpow W
   have HPW := Lib.hid hpow2
   have HX := Lib.hid ex
   clear hpow hpow2 hpw ex hiff hpar
   have hmd : ¬ (n : Int) = 0 := by omega
   go_wp2_with fail
   (with_reducible refine (HPW.out _).mono ?_)
   rintro e w1 ⟨rfl, hb1⟩
   have HB1 := Lib.hid hb1
   clear hb1
   by_cases hx1 : x = 1
   ·obtain rfl : b = true := HB.out.2 (HIFF.out.2 (Or.inl (by rw [← HX.out]; exact hx1)))
    have t1 : ((x : Int) == 1) = true := by rw [beq_iff_eq]; omega
    clear hx1
    go_wp2
    go_ret
    exact ⟨rfl, HB1.out⟩
   ·have t1 : ((x : Int) == 1) = false := by rw [beq_eq_false_iff_ne]; omega
    by_cases hxm : x = m
    ·obtain rfl : b = true := HB.out.2 (HIFF.out.2 (Or.inr ⟨0, hk1, by rw [Nat.pow_zero, Nat.mul_one, ← HX.out, ← HM.out]; exact hxm⟩))
     have t2 : ((x : Int) == (m : Int)) = true := by rw [beq_iff_eq]; omega
     clear hxm
     go_wp2
     go_ret
     exact ⟨rfl, HB1.out⟩
    ·have t2 : ((x : Int) == (m : Int)) = false := by rw [beq_eq_false_iff_ne]; omega
     have HNX : Hid (¬ a ^ d % n = 1) := by show ¬ _; rw [← HX.out]; exact hx1
     have HST : Hid (∀ r, r ≤ 0 → ¬ a ^ (d * 2 ^ r) % n = n - 1) := fun r hr => by
      obtain rfl : r = 0 := by omega
      rw [Nat.pow_zero, Nat.mul_one, ← HX.out, ← HM.out]; exact hxm
     have HX0 : Hid (x = a ^ (d * 2 ^ 0) % n) := by show _ = _; rw [Nat.pow_zero, Nat.mul_one]; exact HX.out
     clear hx1 hxm
     go_wp2_with fail
     go_loop [7, 34] (fun xv iv => ∃ x r : Nat, xv = .int .u32 (x : Int) ∧ iv = .int .i64 (r : Int) ∧ r + 1 ≤ k ∧ x < n ∧ Hid (x = a ^ (d * 2 ^ r) % n) ∧ Hid (∀ r', r' ≤ r → ¬ a ^ (d * 2 ^ r') % n = n - 1)) (fun _ iv => k - (intOf iv).toNat)
     case atStart => exact ⟨x, 0, rfl, rfl, hk1, hxn, HX0.out, HST.out⟩
     case round =>
      obtain ⟨x, r, rfl, rfl, hr, hxn, hX, hno⟩ := hrel
      by_cases hlt : r + 1 < k
      ·have hlt' : (r : Int) < (k : Int) - 1 := by omega
       have hm := Nat.mod_lt (x * x) (show 0 < n by omega)
       have hab : x * x ≤ 4294967295 * 4294967295 := Nat.mul_le_mul (by omega) (by omega)
       have HY : Hid (x * x % n = a ^ (d * 2 ^ (r + 1)) % n) := by show _ = _; rw [hX.out]; exact sq_pow a d r n
       obtain ⟨q, eq⟩ : ∃ m, m = x * x := ⟨_, rfl⟩
       have e1 : IntKind.u64.wrap ((x : Int) * (x : Int)) = (q : Int) := by
        rw [show ((x : Int) * (x : Int)) = (q : Int) by rw [eq]; simp, IntKind.wrap_u64]; omega
       rw [← eq] at hm hab HY
       obtain ⟨y, ey⟩ : ∃ x, x = q % n := ⟨_, rfl⟩
       have e2 : (q : Int) % (n : Int) = (y : Int) := by rw [ey]; simp
       rw [← ey] at hm HY
       have e5 : (y : Int) % 4294967296 = (y : Int) := by omega
       clear eq ey hX
       by_cases hym : y = m
       ·obtain rfl : b = true := HB.out.2 (HIFF.out.2 (Or.inr ⟨r + 1, hlt, by rw [← HY.out, ← HM.out]; exact hym⟩))
        have t3 : ((y : Int) == (m : Int)) = true := by rw [beq_iff_eq]; omega
        clear hym
        go_wp2
        go_ret
        exact ⟨rfl, HB1.out⟩
       ·have t3 : ((y : Int) == (m : Int)) = false := by rw [beq_eq_false_iff_ne]; omega
        have HNO2 : Hid (∀ r', r' ≤ r + 1 → ¬ a ^ (d * 2 ^ r') % n = n - 1) := fun r' hr' => by
         rcases (show r' ≤ r ∨ r' = r + 1 by omega) with h | h
         ·exact hno.out r' h
         ·rw [h, ← HY.out, ← HM.out]; exact hym
        clear hym hno
        go_wp2_with fail
        go_round
        case rel => exact ⟨y, r + 1, rfl, by go_num, by omega, hm, HY.out, HNO2.out⟩
        case measure => simp [intOf]; omega
      ·have hlt' : ¬ (r : Int) < (k : Int) - 1 := by omega
       obtain rfl : b = false := by
        cases hb3 : b
        ·rfl
        ·rcases HIFF.out.1 (HB.out.1 hb3) with h | ⟨r', h3, h4⟩
         ·exact absurd h HNX.out
         ·exact absurd h4 (hno.out r' (by omega))
       clear hno hX
       go_wp2
       go_ret
       exact ⟨rfl, HB1.out⟩
end
/- Walks: the reference's strong test; whether a number is a prime. -/
section
open Go.RowKit Go.Shelf PN
theorem strong_any (a n : Nat) (ha : a < 4294967296) (h2 : 2 < n) (ho : n % 2 = 1) (hn : n < 4294967296) (b : Bool) (hb : b = true ↔ Sp a n) (w : World) :
  Calls Tryz.prog 79 #[.int .u32 (a : Int), .int .u32 (n : Int)] w fun e w' => e = .returned (.bool b) ∧ w = w' := by
 have HB := Lib.hid hb
 obtain ⟨a1, ea1⟩ : ∃ z, z = a % n := ⟨_, rfl⟩
 have ha1 : a1 < n := by rw [ea1]; exact Nat.mod_lt _ (by omega)
 have HA1 := Lib.hid ea1
 have hm : (a : Int) % (n : Int) = (a1 : Int) := by rw [ea1]; simp
 have hn0 : ((n : Int) == 0) = false := by rw [beq_eq_false_iff_ne]; omega
 obtain ⟨m, em⟩ : ∃ m, m = n - 1 := ⟨_, rfl⟩
 have em1 : (n : Int) - 1 = (m : Int) := by omega
 have HM : Hid (m = n - 1) := em
 have hmlt : m < 4294967296 := by omega
 have hm2 : 2 ≤ m := by omega
 have HTM : Hid (∀ (x : Nat) (W : World), x < n → Calls Tryz.prog 84 #[.int .u32 (x : Int), .int .u32 (x : Int), .int .u32 (n : Int)] W fun e w' => e = .returned (.int .u32 ((x * x % n : Nat) : Int)) ∧ W = w') :=
  fun x W hx => times01 x x n (by omega) (by omega) (by omega) hn W
 clear hb ea1 em
 go_enter Tryz.func79, Tryz.ntmps79
 go_wp2_with fail
 go_loop [5] (fun dv => ∃ d k : Nat, dv = .int .u32 (d : Int) ∧ 0 < d ∧ d < 4294967296 ∧ Hid (m = d * 2 ^ k)) (fun dv => (intOf dv).toNat)
 case atStart => exact ⟨m, 0, rfl, by omega, hmlt, by show _ = _; simp⟩
 case round =>
  obtain ⟨d, k, rfl, hd0, hdl, hS⟩ := hrel
  rcases Nat.mod_two_eq_zero_or_one d with hpar | hpar
  ·have hand : (d : Int) % 2 = 0 := by omega
   obtain ⟨h, eh⟩ : ∃ z, z = d / 2 := ⟨_, rfl⟩
   have hh : (d : Int) / 2 = (h : Int) := by omega
   have hS2 : Hid (m = h * 2 ^ (k + 1)) := by
    show _ = _
    rw [hS.out, Nat.pow_succ', ← Nat.mul_assoc]
    congr 1; omega
   have hh0 : 0 < h := by omega
   have hhd : h < d := by omega
   clear eh hS hpar
   go_wp2_with fail
   go_round
   case rel => exact ⟨h, k + 1, rfl, hh0, by omega, hS2.out⟩
   case measure => simp [intOf]; omega
  ·have hand : (d : Int) % 2 = 1 := by omega
   have hiff := Sp_iff (a := a) (n := n) (d := d) (k := k) (by rw [← HM.out]; exact hS.out) hpar
   have HIFF := Lib.hid hiff
   have hk1 : 1 ≤ k := by
    rcases Nat.eq_zero_or_pos k with h | h
    ·have h3 := hS.out
     rw [h, Nat.pow_zero, Nat.mul_one] at h3
     have := HM.out
     omega
    ·exact h
   have hpw : ∀ r, a1 ^ r % n = a ^ r % n := fun r => by rw [HA1.out, ← Nat.pow_mod]
   have hpow := fun W => power01_any a1 d n ha1 (by omega) hn (by omega) W
   rw [hpw] at hpow
   obtain ⟨x, ex⟩ : ∃ x, x = a ^ d % n := ⟨_, rfl⟩
   have hxn : x < n := by rw [ex]; exact Nat.mod_lt _ (by omega)
   have hpow2 : ∀ W : World, Calls Tryz.prog 101 #[.int .u32 (a1 : Int), .int .u64 (d : Int), .int .u32 (n : Int)] W fun e w' => e = .returned (.int .u32 (x : Int)) ∧ W = w' := fun W => by rw [ex]; exact hpow W
   have HPW := Lib.hid hpow2
   have HX := Lib.hid ex
   clear hpow hpow2 hpw ex hiff hpar
   have hmd : ¬ (n : Int) = 0 := by omega
   go_wp2_with fail
   (with_reducible refine (HPW.out _).mono ?_)
   rintro e w1 ⟨rfl, rfl⟩
   by_cases hx1 : x = 1
   ·obtain rfl : b = true := HB.out.2 (HIFF.out.2 (Or.inl (by rw [← HX.out]; exact hx1)))
    have t1 : ((x : Int) == 1) = true := by rw [beq_iff_eq]; omega
    clear hx1
    go_wp2
    go_ret
    exact ⟨rfl, rfl⟩
   ·have t1 : ((x : Int) == 1) = false := by rw [beq_eq_false_iff_ne]; omega
    have HNX : Hid (¬ a ^ d % n = 1) := by show ¬ _; rw [← HX.out]; exact hx1
    have HX0 : Hid (x = a ^ (d * 2 ^ 0) % n) := by show _ = _; rw [Nat.pow_zero, Nat.mul_one]; exact HX.out
    clear hx1
    go_wp2_with fail
    go_loop [5, 6] (fun dv xv => ∃ x r c : Nat, xv = .int .u32 (x : Int) ∧ dv = .int .u32 (c : Int) ∧ 0 < c ∧ c ≤ m ∧ r ≤ k ∧ x < n ∧ Hid (c = d * 2 ^ r) ∧ Hid (x = a ^ (d * 2 ^ r) % n) ∧ Hid (∀ r', r' < r → ¬ a ^ (d * 2 ^ r') % n = n - 1)) (fun dv _ => m - (intOf dv).toNat)
    case atStart => exact ⟨x, 0, d, rfl, rfl, hd0, by rw [hS.out]; exact Nat.le_mul_of_pos_right _ (Nat.pow_pos (by omega)), by omega, hxn, by show _ = _; simp, HX0.out, fun r' h => by omega⟩
    case round =>
     obtain ⟨x, r, c, rfl, rfl, hc0, hcm, hr, hxn, hC, hX, hno⟩ := hrel
     by_cases hlt : c < m
     ·have hlt' : (c : Int) < (m : Int) := by omega
      have hrk : r < k := by
       rcases Nat.lt_or_ge r k with h | h
       ·exact h
       ·exfalso
        obtain rfl : r = k := by omega
        have h1 := hS.out
        have h3 := hC.out
        omega
      by_cases hym : x = m
      ·obtain rfl : b = true := HB.out.2 (HIFF.out.2 (Or.inr ⟨r, hrk, by rw [← hX.out, ← HM.out]; exact hym⟩))
       have t3 : ((x : Int) == (m : Int)) = true := by rw [beq_iff_eq]; omega
       clear hym hX hno hC
       go_wp2
       go_ret
       exact ⟨rfl, rfl⟩
      ·have t3 : ((x : Int) == (m : Int)) = false := by rw [beq_eq_false_iff_ne]; omega
       have HY : Hid (x * x % n = a ^ (d * 2 ^ (r + 1)) % n) := by show _ = _; rw [hX.out]; exact sq_pow a d r n
       have hm := Nat.mod_lt (x * x) (show 0 < n by omega)
       have hT := HTM.out x
       obtain ⟨y, ey⟩ : ∃ y, y = x * x % n := ⟨_, rfl⟩
       rw [← ey] at hm HY hT
       have HT2 := Lib.hid (fun W => hT W hxn)
       have HNO2 : Hid (∀ r', r' < r + 1 → ¬ a ^ (d * 2 ^ r') % n = n - 1) := fun r' hr' => by
        rcases (show r' < r ∨ r' = r by omega) with h | h
        ·exact hno.out r' h
        ·rw [h, ← hX.out, ← HM.out]; exact hym
       have HC2 : Hid (c * 2 = d * 2 ^ (r + 1)) := by show _ = _; rw [hC.out, Nat.pow_succ, Nat.mul_assoc]
       have hcm2 : c * 2 ≤ m := by
        rw [HC2.out, hS.out]
        exact Nat.mul_le_mul_left _ (Nat.pow_le_pow_right (by omega) hrk)
       obtain ⟨c2, ec2⟩ : ∃ c2, c2 = c * 2 := ⟨_, rfl⟩
       have hc2 : (c : Int) * 2 = (c2 : Int) := by omega
       rw [← ec2] at HC2 hcm2
       have hc2c : c < c2 := by omega
       clear hym hno hX ey hT hC ec2
       go_wp2_with fail
       (with_reducible refine (HT2.out _).mono ?_)
       rintro ee w1 ⟨rfl, rfl⟩
       go_wp2_with fail
       go_round
       case rel => exact ⟨y, r + 1, c2, rfl, rfl, by omega, hcm2, by omega, hm, HC2.out, HY.out, HNO2.out⟩
       case measure => simp [intOf]; omega
     ·have hlt' : ¬ (c : Int) < (m : Int) := by omega
      obtain rfl : b = false := by
       cases hb3 : b
       ·rfl
       ·rcases HIFF.out.1 (HB.out.1 hb3) with h | ⟨r', h3, h4⟩
        ·exact absurd h HNX.out
        ·have hrr : r' < r := by
          rcases Nat.lt_or_ge r' r with h | h
          ·exact h
          ·exfalso
           have h5 : d * 2 ^ (r + 1) ≤ d * 2 ^ k := Nat.mul_le_mul_left _ (Nat.pow_le_pow_right (by omega) (by omega))
           have h6 := hC.out
           rw [Nat.pow_succ, ← Nat.mul_assoc, ← h6, ← hS.out] at h5
           omega
         exact absurd h4 (hno.out r' hrr)
      clear hno hX hC
      go_wp2
      go_ret
      exact ⟨rfl, rfl⟩
def sml : List Nat := [2, 3, 5, 7, 11, 13, 61]
def PrimeP (n : Nat) : Prop := 2 ≤ n ∧ (n ∈ sml ∨ ((∀ p ∈ sml, ¬ p ∣ n) ∧ Ps n))
def RefP (n : Nat) : Prop := (n = 2 ∨ n = 7 ∨ n = 61) ∨ (2 < n ∧ n % 2 = 1 ∧ 0 < n % 7 ∧ 0 < n % 61 ∧ Ps n)
theorem sml_sp : ∀ p ∈ sml, p ∈ sp := by decide
theorem PrimeP.pr {n : Nat} (h : PrimeP n) (hn : n < 2147483648) : Pr n := by
 obtain ⟨h2, h3 | ⟨h3, h4⟩⟩ := h
 ·exact sp_pr (sml_sp n h3)
 ·refine exact (by omega) hn ?_ ?_ ?_ h4
  ·have := h3 2 (by simp [sml]); omega
  ·exact fun h => h3 7 (by simp [sml]) (Nat.dvd_of_mod_eq_zero h)
  ·exact fun h => h3 61 (by simp [sml]) (Nat.dvd_of_mod_eq_zero h)
theorem sp_of (a n d s : Nat) (h : (Nat.beq (n - 1) (d * 2 ^ s) && Nat.beq (d % 2) 1 && (Nat.beq (a ^ d % n) 1 || (List.range s).any fun r => Nat.beq (a ^ (d * 2 ^ r) % n) (n - 1))) = true) : Sp a n := by
 rw [Bool.and_eq_true, Bool.and_eq_true, Bool.or_eq_true] at h
 obtain ⟨⟨h1, h2⟩, h3⟩ := h
 refine ⟨d, s, beqN.1 h1, beqN.1 h2, ?_⟩
 rcases h3 with h3 | h3
 ·exact Or.inl (beqN.1 h3)
 ·rw [List.any_eq_true] at h3
  obtain ⟨r, hr, h4⟩ := h3
  exact Or.inr ⟨r, by simpa using hr, beqN.1 h4⟩
theorem ps_small : Ps 3 ∧ Ps 5 ∧ Ps 11 ∧ Ps 13 :=
  ⟨⟨sp_of 2 3 1 1 (by decide +kernel), sp_of 7 3 1 1 (by decide +kernel), sp_of 61 3 1 1 (by decide +kernel)⟩,
   ⟨sp_of 2 5 1 2 (by decide +kernel), sp_of 7 5 1 2 (by decide +kernel), sp_of 61 5 1 2 (by decide +kernel)⟩,
   ⟨sp_of 2 11 5 1 (by decide +kernel), sp_of 7 11 5 1 (by decide +kernel), sp_of 61 11 5 1 (by decide +kernel)⟩,
   ⟨sp_of 2 13 3 2 (by decide +kernel), sp_of 7 13 3 2 (by decide +kernel), sp_of 61 13 3 2 (by decide +kernel)⟩⟩
theorem prime_iff {n : Nat} (hn : n < 2147483648) : PrimeP n ↔ RefP n := by
 constructor
 ·rintro ⟨h2, h3 | ⟨h3, h4⟩⟩
  ·obtain ⟨p3, p5, p11, p13⟩ := ps_small
   simp only [sml, List.mem_cons, List.not_mem_nil, or_false] at h3
   rcases h3 with rfl | rfl | rfl | rfl | rfl | rfl | rfl
   ·exact Or.inl (Or.inl rfl)
   ·exact Or.inr ⟨by omega, by omega, by omega, by omega, p3⟩
   ·exact Or.inr ⟨by omega, by omega, by omega, by omega, p5⟩
   ·exact Or.inl (Or.inr (Or.inl rfl))
   ·exact Or.inr ⟨by omega, by omega, by omega, by omega, p11⟩
   ·exact Or.inr ⟨by omega, by omega, by omega, by omega, p13⟩
   ·exact Or.inl (Or.inr (Or.inr rfl))
  ·have h5 := h3 2 (by simp [sml])
   have h6 := h3 7 (by simp [sml])
   have h7 := h3 61 (by simp [sml])
   exact Or.inr ⟨by omega, by omega, by omega, by omega, h4⟩
 ·rintro (h | ⟨h2, h3, h4, h5, h6⟩)
  ·rcases h with rfl | rfl | rfl
   ·exact ⟨by omega, Or.inl (by simp [sml])⟩
   ·exact ⟨by omega, Or.inl (by simp [sml])⟩
   ·exact ⟨by omega, Or.inl (by simp [sml])⟩
  ·have hp := exact (show 1 < n by omega) hn h3 (by omega) (by omega) h6
   refine ⟨by omega, ?_⟩
   by_cases hm : n ∈ sml
   ·exact Or.inl hm
   ·refine Or.inr ⟨fun p hpm hd => hm ?_, h6⟩
    have := (sp_pr (sml_sp p hpm)).eq_of_dvd hp hd
    rw [← this]; exact hpm
end
/- Walks: whether a number is a prime, by the program and by the reference. -/
section
open Go.RowKit Go.Shelf PN
theorem sml_eq {p n : Nat} (hp : p ∈ sml) (h2 : 2 ≤ n) (hd : p ∣ n) : PrimeP n ↔ n = p := by
 constructor
 ·rintro ⟨_, h3 | ⟨h3, _⟩⟩
  ·exact ((sp_pr (sml_sp p hp)).eq_of_dvd (sp_pr (sml_sp n h3)) hd).symm
  ·exact absurd hd (h3 p hp)
 ·rintro rfl
  exact ⟨h2, Or.inl hp⟩
theorem no_div (n : Nat) : (∀ j, j < 7 → ∀ p, sml[j]? = some p → ¬ p ∣ n) → ∀ p ∈ sml, ¬ p ∣ n := by
 intro h p hp
 obtain ⟨j, hj, rfl⟩ := List.mem_iff_getElem.1 hp
 exact h j (by simpa [sml] using hj) _ (List.getElem?_eq_getElem hj)
theorem no_div_succ {n k q : Nat} (h : ∀ j, j < k → ∀ p, sml[j]? = some p → ¬ p ∣ n) (hq : sml[k]? = some q) (hd : ¬ q ∣ n) : ∀ j, j < k + 1 → ∀ p, sml[j]? = some p → ¬ p ∣ n := by
 intro j hj p hp
 rcases (show j < k ∨ j = k by omega) with h1 | rfl
 ·exact h j h1 p hp
 ·rw [hq] at hp
  injection hp with hp
  rw [← hp]; exact hd
theorem prime_ps {n : Nat} (h2 : 2 ≤ n) (h : ∀ p ∈ sml, ¬ p ∣ n) : PrimeP n ↔ Ps n := by
 constructor
 ·rintro ⟨_, h3 | ⟨_, h4⟩⟩
  ·exact absurd (Nat.dvd_refl n) (h n h3)
  ·exact h4
 ·exact fun h4 => ⟨h2, Or.inr ⟨h, h4⟩⟩
theorem Prime_any (n : Nat) (hn : n < 4294967296) (b : Bool) (hb : b = true ↔ PrimeP n) (w : World) :
  Calls Tryz.prog 18 #[.int .u32 (n : Int)] w fun e w' => e = .returned (.bool b) ∧ Below w.heap.size w w' := by
 have HB := Lib.hid hb
 clear hb
 by_cases h2 : 2 ≤ n
 ·have h2' : ¬ (n : Int) < 2 := by omega
  obtain ⟨b2, hb2⟩ := em_bool (Sp 2 n)
  obtain ⟨b7, hb7⟩ := em_bool (Sp 7 n)
  obtain ⟨b61, hb61⟩ := em_bool (Sp 61 n)
  have HB2 := Lib.hid hb2
  have HB7 := Lib.hid hb7
  have HB61 := Lib.hid hb61
  clear hb2 hb7 hb61
  have i70 : ∀ w, (Instr.index 76 (.agg #[.int .u32 2, .int .u32 3, .int .u32 5, .int .u32 7, .int .u32 11, .int .u32 13, .int .u32 61]) (.int .i64 0)).run Tryz.prog w = .ok (.int .u32 2) w := fun _ => by kernel_rfl
  have i71 : ∀ w, (Instr.index 76 (.agg #[.int .u32 2, .int .u32 3, .int .u32 5, .int .u32 7, .int .u32 11, .int .u32 13, .int .u32 61]) (.int .i64 1)).run Tryz.prog w = .ok (.int .u32 3) w := fun _ => by kernel_rfl
  have i72 : ∀ w, (Instr.index 76 (.agg #[.int .u32 2, .int .u32 3, .int .u32 5, .int .u32 7, .int .u32 11, .int .u32 13, .int .u32 61]) (.int .i64 2)).run Tryz.prog w = .ok (.int .u32 5) w := fun _ => by kernel_rfl
  have i73 : ∀ w, (Instr.index 76 (.agg #[.int .u32 2, .int .u32 3, .int .u32 5, .int .u32 7, .int .u32 11, .int .u32 13, .int .u32 61]) (.int .i64 3)).run Tryz.prog w = .ok (.int .u32 7) w := fun _ => by kernel_rfl
  have i74 : ∀ w, (Instr.index 76 (.agg #[.int .u32 2, .int .u32 3, .int .u32 5, .int .u32 7, .int .u32 11, .int .u32 13, .int .u32 61]) (.int .i64 4)).run Tryz.prog w = .ok (.int .u32 11) w := fun _ => by kernel_rfl
  have i75 : ∀ w, (Instr.index 76 (.agg #[.int .u32 2, .int .u32 3, .int .u32 5, .int .u32 7, .int .u32 11, .int .u32 13, .int .u32 61]) (.int .i64 5)).run Tryz.prog w = .ok (.int .u32 13) w := fun _ => by kernel_rfl
  have i76 : ∀ w, (Instr.index 76 (.agg #[.int .u32 2, .int .u32 3, .int .u32 5, .int .u32 7, .int .u32 11, .int .u32 13, .int .u32 61]) (.int .i64 6)).run Tryz.prog w = .ok (.int .u32 61) w := fun _ => by kernel_rfl
  have i30 : ∀ w, (Instr.index 77 (.agg #[.int .u32 2, .int .u32 7, .int .u32 61]) (.int .i64 0)).run Tryz.prog w = .ok (.int .u32 2) w := fun _ => by kernel_rfl
  have i31 : ∀ w, (Instr.index 77 (.agg #[.int .u32 2, .int .u32 7, .int .u32 61]) (.int .i64 1)).run Tryz.prog w = .ok (.int .u32 7) w := fun _ => by kernel_rfl
  have i32 : ∀ w, (Instr.index 77 (.agg #[.int .u32 2, .int .u32 7, .int .u32 61]) (.int .i64 2)).run Tryz.prog w = .ok (.int .u32 61) w := fun _ => by kernel_rfl
  go_enter Tryz.func18, Tryz.ntmps18
  go_wp2_with fail
  go_loop [10] (fun iv => ∃ k : Nat, iv = .int .i64 (k : Int) ∧ k ≤ 7 ∧ Hid (∀ j, j < k → ∀ p, sml[j]? = some p → ¬ p ∣ n)) (fun iv => 7 - (intOf iv).toNat)
  case atStart => exact ⟨0, rfl, by omega, fun j hj => by omega⟩
  case round =>
   obtain ⟨k, rfl, hk, hno⟩ := hrel
   rcases (show k = 0 ∨ k = 1 ∨ k = 2 ∨ k = 3 ∨ k = 4 ∨ k = 5 ∨ k = 6 ∨ k = 7 by omega) with rfl | rfl | rfl | rfl | rfl | rfl | rfl | rfl
   ·by_cases hd : 2 ∣ n
    ·have e1 : (n : Int) % 2 = 0 := by omega
     have hiff := sml_eq (p := 2) (n := n) (by simp [sml]) h2 hd
     clear hno hd
     by_cases hp : n = 2
     ·obtain rfl : b = true := HB.out.2 (hiff.2 hp)
      have e2 : ((n : Int) == 2) = true := by rw [beq_iff_eq]; omega
      clear hp hiff
      go_wp2
      go_ret
      exact ⟨rfl, Below.refl _ _⟩
     ·obtain rfl : b = false := by
       cases h : b
       ·rfl
       ·exact absurd (hiff.1 (HB.out.1 h)) hp
      have e2 : ((n : Int) == 2) = false := by rw [beq_eq_false_iff_ne]; omega
      clear hp hiff
      go_wp2
      go_ret
      exact ⟨rfl, Below.refl _ _⟩
    ·have e1 : ((n : Int) % 2 == 0) = false := by rw [beq_eq_false_iff_ne]; omega
     have HNO := Lib.hid (no_div_succ hno.out (q := 2) rfl hd)
     clear hno hd
     go_wp2_with fail
     go_round
     case rel => exact ⟨1, rfl, by omega, HNO.out⟩
     case measure => simp [intOf]
   ·by_cases hd : 3 ∣ n
    ·have e1 : (n : Int) % 3 = 0 := by omega
     have hiff := sml_eq (p := 3) (n := n) (by simp [sml]) h2 hd
     clear hno hd
     by_cases hp : n = 3
     ·obtain rfl : b = true := HB.out.2 (hiff.2 hp)
      have e2 : ((n : Int) == 3) = true := by rw [beq_iff_eq]; omega
      clear hp hiff
      go_wp2
      go_ret
      exact ⟨rfl, Below.refl _ _⟩
     ·obtain rfl : b = false := by
       cases h : b
       ·rfl
       ·exact absurd (hiff.1 (HB.out.1 h)) hp
      have e2 : ((n : Int) == 3) = false := by rw [beq_eq_false_iff_ne]; omega
      clear hp hiff
      go_wp2
      go_ret
      exact ⟨rfl, Below.refl _ _⟩
    ·have e1 : ((n : Int) % 3 == 0) = false := by rw [beq_eq_false_iff_ne]; omega
     have HNO := Lib.hid (no_div_succ hno.out (q := 3) rfl hd)
     clear hno hd
     go_wp2_with fail
     go_round
     case rel => exact ⟨2, rfl, by omega, HNO.out⟩
     case measure => simp [intOf]
   ·by_cases hd : 5 ∣ n
    ·have e1 : (n : Int) % 5 = 0 := by omega
     have hiff := sml_eq (p := 5) (n := n) (by simp [sml]) h2 hd
     clear hno hd
     by_cases hp : n = 5
     ·obtain rfl : b = true := HB.out.2 (hiff.2 hp)
      have e2 : ((n : Int) == 5) = true := by rw [beq_iff_eq]; omega
      clear hp hiff
      go_wp2
      go_ret
      exact ⟨rfl, Below.refl _ _⟩
     ·obtain rfl : b = false := by
       cases h : b
       ·rfl
       ·exact absurd (hiff.1 (HB.out.1 h)) hp
      have e2 : ((n : Int) == 5) = false := by rw [beq_eq_false_iff_ne]; omega
      clear hp hiff
      go_wp2
      go_ret
      exact ⟨rfl, Below.refl _ _⟩
    ·have e1 : ((n : Int) % 5 == 0) = false := by rw [beq_eq_false_iff_ne]; omega
     have HNO := Lib.hid (no_div_succ hno.out (q := 5) rfl hd)
     clear hno hd
     go_wp2_with fail
     go_round
     case rel => exact ⟨3, rfl, by omega, HNO.out⟩
     case measure => simp [intOf]
   ·by_cases hd : 7 ∣ n
    ·have e1 : (n : Int) % 7 = 0 := by omega
     have hiff := sml_eq (p := 7) (n := n) (by simp [sml]) h2 hd
     clear hno hd
     by_cases hp : n = 7
     ·obtain rfl : b = true := HB.out.2 (hiff.2 hp)
      have e2 : ((n : Int) == 7) = true := by rw [beq_iff_eq]; omega
      clear hp hiff
      go_wp2
      go_ret
      exact ⟨rfl, Below.refl _ _⟩
     ·obtain rfl : b = false := by
       cases h : b
       ·rfl
       ·exact absurd (hiff.1 (HB.out.1 h)) hp
      have e2 : ((n : Int) == 7) = false := by rw [beq_eq_false_iff_ne]; omega
      clear hp hiff
      go_wp2
      go_ret
      exact ⟨rfl, Below.refl _ _⟩
    ·have e1 : ((n : Int) % 7 == 0) = false := by rw [beq_eq_false_iff_ne]; omega
     have HNO := Lib.hid (no_div_succ hno.out (q := 7) rfl hd)
     clear hno hd
     go_wp2_with fail
     go_round
     case rel => exact ⟨4, rfl, by omega, HNO.out⟩
     case measure => simp [intOf]
   ·by_cases hd : 11 ∣ n
    ·have e1 : (n : Int) % 11 = 0 := by omega
     have hiff := sml_eq (p := 11) (n := n) (by simp [sml]) h2 hd
     clear hno hd
     by_cases hp : n = 11
     ·obtain rfl : b = true := HB.out.2 (hiff.2 hp)
      have e2 : ((n : Int) == 11) = true := by rw [beq_iff_eq]; omega
      clear hp hiff
      go_wp2
      go_ret
      exact ⟨rfl, Below.refl _ _⟩
     ·obtain rfl : b = false := by
       cases h : b
       ·rfl
       ·exact absurd (hiff.1 (HB.out.1 h)) hp
      have e2 : ((n : Int) == 11) = false := by rw [beq_eq_false_iff_ne]; omega
      clear hp hiff
      go_wp2
      go_ret
      exact ⟨rfl, Below.refl _ _⟩
    ·have e1 : ((n : Int) % 11 == 0) = false := by rw [beq_eq_false_iff_ne]; omega
     have HNO := Lib.hid (no_div_succ hno.out (q := 11) rfl hd)
     clear hno hd
     go_wp2_with fail
     go_round
     case rel => exact ⟨5, rfl, by omega, HNO.out⟩
     case measure => simp [intOf]
   ·by_cases hd : 13 ∣ n
    ·have e1 : (n : Int) % 13 = 0 := by omega
     have hiff := sml_eq (p := 13) (n := n) (by simp [sml]) h2 hd
     clear hno hd
     by_cases hp : n = 13
     ·obtain rfl : b = true := HB.out.2 (hiff.2 hp)
      have e2 : ((n : Int) == 13) = true := by rw [beq_iff_eq]; omega
      clear hp hiff
      go_wp2
      go_ret
      exact ⟨rfl, Below.refl _ _⟩
     ·obtain rfl : b = false := by
       cases h : b
       ·rfl
       ·exact absurd (hiff.1 (HB.out.1 h)) hp
      have e2 : ((n : Int) == 13) = false := by rw [beq_eq_false_iff_ne]; omega
      clear hp hiff
      go_wp2
      go_ret
      exact ⟨rfl, Below.refl _ _⟩
    ·have e1 : ((n : Int) % 13 == 0) = false := by rw [beq_eq_false_iff_ne]; omega
     have HNO := Lib.hid (no_div_succ hno.out (q := 13) rfl hd)
     clear hno hd
     go_wp2_with fail
     go_round
     case rel => exact ⟨6, rfl, by omega, HNO.out⟩
     case measure => simp [intOf]
   ·by_cases hd : 61 ∣ n
    ·have e1 : (n : Int) % 61 = 0 := by omega
     have hiff := sml_eq (p := 61) (n := n) (by simp [sml]) h2 hd
     clear hno hd
     by_cases hp : n = 61
     ·obtain rfl : b = true := HB.out.2 (hiff.2 hp)
      have e2 : ((n : Int) == 61) = true := by rw [beq_iff_eq]; omega
      clear hp hiff
      go_wp2
      go_ret
      exact ⟨rfl, Below.refl _ _⟩
     ·obtain rfl : b = false := by
       cases h : b
       ·rfl
       ·exact absurd (hiff.1 (HB.out.1 h)) hp
      have e2 : ((n : Int) == 61) = false := by rw [beq_eq_false_iff_ne]; omega
      clear hp hiff
      go_wp2
      go_ret
      exact ⟨rfl, Below.refl _ _⟩
    ·have e1 : ((n : Int) % 61 == 0) = false := by rw [beq_eq_false_iff_ne]; omega
     have HNO := Lib.hid (no_div_succ hno.out (q := 61) rfl hd)
     clear hno hd
     go_wp2_with fail
     go_round
     case rel => exact ⟨7, rfl, by omega, HNO.out⟩
     case measure => simp [intOf]
   ·have hall := no_div n hno.out
    have hps := prime_ps h2 hall
    have HPS := Lib.hid hps
    have h3 : n % 2 = 1 := by have := hall 2 (by simp [sml]); omega
    have h4 : 2 < n := by omega
    have HC2 : Hid (∀ W : World, Calls Tryz.prog 41 #[.int .u32 2, .int .u32 (n : Int)] W fun e w' => e = .returned (.bool b2) ∧ Below W.heap.size W w') := fun W => passes_any 2 n (by omega) h4 h3 hn b2 HB2.out W
    have HC7 : Hid (∀ W : World, Calls Tryz.prog 41 #[.int .u32 7, .int .u32 (n : Int)] W fun e w' => e = .returned (.bool b7) ∧ Below W.heap.size W w') := fun W => passes_any 7 n (by omega) h4 h3 hn b7 HB7.out W
    have HC61 : Hid (∀ W : World, Calls Tryz.prog 41 #[.int .u32 61, .int .u32 (n : Int)] W fun e w' => e = .returned (.bool b61) ∧ Below W.heap.size W w') := fun W => passes_any 61 n (by omega) h4 h3 hn b61 HB61.out W
    have hbb : b = (b2 && (b7 && b61)) := by
     rw [Bool.eq_iff_iff, HB.out, hps]
     simp [Ps, HB2.out, HB7.out, HB61.out]
    clear hno hall hps h3 h4
    go_wp2_with fail
    go_loopw [22] (fun iv wr => ∃ k : Nat, iv = .int .i64 (k : Int) ∧ k ≤ 3 ∧ (0 < k → b2 = true) ∧ (1 < k → b7 = true) ∧ (2 < k → b61 = true) ∧ Below w.heap.size w wr) (fun iv _ => 3 - (intOf iv).toNat)
    case atStart => exact ⟨0, rfl, by omega, fun h => by omega, fun h => by omega, fun h => by omega, Below.refl _ _⟩
    case round =>
     obtain ⟨k, rfl, hk, k2, k7, k61, hbl⟩ := hrel
     have HBL := Lib.hid hbl
     clear hbl
     rcases (show k = 0 ∨ k = 1 ∨ k = 2 ∨ k = 3 by omega) with rfl | rfl | rfl | rfl
     ·clear k2 k7 k61
      go_wp2_with fail
      (with_reducible refine (HC2.out _).mono ?_)
      rintro e w1 ⟨rfl, hb1⟩
      have HB1 := Lib.hid (HBL.out.trans (hb1.mono HBL.out.size))
      clear hb1
      cases hbv : b2 with
      | false =>
       obtain rfl : b = false := by rw [hbb, hbv]; simp
       clear hbb
       go_wp2
       go_ret
       exact ⟨rfl, HB1.out⟩
      | true =>
       clear hbb
       go_wp2_with fail
       go_roundw
       case rel => exact ⟨1, rfl, by omega, fun _ => hbv, fun h => by omega, fun h => by omega, HB1.out⟩
       case measure => simp [intOf]
     ·have K2 := k2 (by omega)
      clear k2 k7 k61
      go_wp2_with fail
      (with_reducible refine (HC7.out _).mono ?_)
      rintro e w1 ⟨rfl, hb1⟩
      have HB1 := Lib.hid (HBL.out.trans (hb1.mono HBL.out.size))
      clear hb1
      cases hbv : b7 with
      | false =>
       obtain rfl : b = false := by rw [hbb, hbv]; simp
       clear hbb
       go_wp2
       go_ret
       exact ⟨rfl, HB1.out⟩
      | true =>
       clear hbb
       go_wp2_with fail
       go_roundw
       case rel => exact ⟨2, rfl, by omega, fun _ => K2, fun _ => hbv, fun h => by omega, HB1.out⟩
       case measure => simp [intOf]
     ·have K2 := k2 (by omega)
      have K7 := k7 (by omega)
      clear k2 k7 k61
      go_wp2_with fail
      (with_reducible refine (HC61.out _).mono ?_)
      rintro e w1 ⟨rfl, hb1⟩
      have HB1 := Lib.hid (HBL.out.trans (hb1.mono HBL.out.size))
      clear hb1
      cases hbv : b61 with
      | false =>
       obtain rfl : b = false := by rw [hbb, hbv]; simp
       clear hbb
       go_wp2
       go_ret
       exact ⟨rfl, HB1.out⟩
      | true =>
       clear hbb
       go_wp2_with fail
       go_roundw
       case rel => exact ⟨3, rfl, by omega, fun _ => K2, fun _ => K7, fun _ => hbv, HB1.out⟩
       case measure => simp [intOf]
     ·obtain rfl : b = true := by rw [hbb, k2 (by omega), k7 (by omega), k61 (by omega)]; rfl
      clear hbb k2 k7 k61
      go_wp2
      go_ret
      exact ⟨rfl, HBL.out⟩
 ·have h2' : (n : Int) < 2 := by omega
  obtain rfl : b = false := by
   cases h : b
   ·rfl
   ·have := (HB.out.1 h).1; omega
  clear h2
  go_enter Tryz.func18, Tryz.ntmps18
  go_wp2
  go_ret
  exact ⟨rfl, Below.refl _ _⟩
theorem Prime01_any (n : Nat) (hn : n < 4294967296) (b : Bool) (hb : b = true ↔ RefP n) (w : World) :
  Calls Tryz.prog 53 #[.int .u32 (n : Int)] w fun e w' => e = .returned (.bool b) ∧ w = w' := by
 have HB := Lib.hid hb
 clear hb
 by_cases h1 : n = 2 ∨ n = 7 ∨ n = 61
 ·obtain rfl : b = true := HB.out.2 (Or.inl h1)
  rcases h1 with rfl | rfl | rfl <;>
  ·go_enter Tryz.func53, Tryz.ntmps53
   go_wp2
   go_ret
   exact ⟨rfl, rfl⟩
 ·have t2 : ((n : Int) == 2) = false := by rw [beq_eq_false_iff_ne]; omega
  have t7 : ((n : Int) == 7) = false := by rw [beq_eq_false_iff_ne]; omega
  have t61 : ((n : Int) == 61) = false := by rw [beq_eq_false_iff_ne]; omega
  by_cases h2 : 2 < n ∧ n % 2 = 1 ∧ 0 < n % 7 ∧ 0 < n % 61
  ·obtain ⟨g1, g2, g3, g4⟩ := h2
   have u1 : (2 : Int) < (n : Int) := by omega
   have u2 : ((n : Int) % 2 == 1) = true := by rw [beq_iff_eq]; omega
   have u2' : (n : Int) % 2 = 1 := by omega
   have u3 : (0 : Int) < (n : Int) % 7 := by omega
   have u4 : (0 : Int) < (n : Int) % 61 := by omega
   obtain ⟨b2, hb2⟩ := em_bool (Sp 2 n)
   obtain ⟨b7, hb7⟩ := em_bool (Sp 7 n)
   obtain ⟨b61, hb61⟩ := em_bool (Sp 61 n)
   have HC2 : Hid (∀ W : World, Calls Tryz.prog 79 #[.int .u32 2, .int .u32 (n : Int)] W fun e w' => e = .returned (.bool b2) ∧ W = w') := fun W => strong_any 2 n (by omega) g1 g2 hn b2 hb2 W
   have HC7 : Hid (∀ W : World, Calls Tryz.prog 79 #[.int .u32 7, .int .u32 (n : Int)] W fun e w' => e = .returned (.bool b7) ∧ W = w') := fun W => strong_any 7 n (by omega) g1 g2 hn b7 hb7 W
   have HC61 : Hid (∀ W : World, Calls Tryz.prog 79 #[.int .u32 61, .int .u32 (n : Int)] W fun e w' => e = .returned (.bool b61) ∧ W = w') := fun W => strong_any 61 n (by omega) g1 g2 hn b61 hb61 W
   obtain rfl : b = (b2 && (b7 && b61)) := by
    rw [Bool.eq_iff_iff, HB.out]
    constructor
    ·rintro (h | ⟨_, _, _, _, h⟩)
     ·exact absurd h h1
     ·simp [hb2, hb7, hb61]; exact h
    ·intro h
     refine Or.inr ⟨g1, g2, g3, g4, ?_⟩
     simp [hb2, hb7, hb61] at h
     exact h
   clear HB hb2 hb7 hb61 h1 g2 g3 g4
   go_enter Tryz.func53, Tryz.ntmps53
   go_wp2_with fail
   (with_reducible refine (HC2.out _).mono ?_)
   rintro e w1 ⟨rfl, rfl⟩
   cases b2 with
   | false =>
    go_wp2
    go_ret
    exact ⟨rfl, rfl⟩
   | true =>
    go_wp2_with fail
    (with_reducible refine (HC7.out _).mono ?_)
    rintro e w1 ⟨rfl, rfl⟩
    cases b7 with
    | false =>
     go_wp2
     go_ret
     exact ⟨rfl, rfl⟩
    | true =>
     go_wp2_with fail
     (with_reducible refine (HC61.out _).mono ?_)
     rintro e w1 ⟨rfl, rfl⟩
     go_wp2
     go_ret
     exact ⟨rfl, rfl⟩
  ·obtain rfl : b = false := by
    cases h : b
    ·rfl
    ·rcases HB.out.1 h with h3 | ⟨g1, g2, g3, g4, _⟩
     ·exact absurd h3 h1
     ·exact absurd ⟨g1, g2, g3, g4⟩ h2
   clear HB h1
   by_cases g1 : 2 < n
   ·by_cases g2 : n % 2 = 1
    ·by_cases g3 : 0 < n % 7
     ·have g4 : ¬ 0 < n % 61 := fun h => h2 ⟨g1, g2, g3, h⟩
      have u1 : (2 : Int) < (n : Int) := by omega
      have u2 : ((n : Int) % 2 == 1) = true := by rw [beq_iff_eq]; omega
      have u2' : (n : Int) % 2 = 1 := by omega
      have u3 : (0 : Int) < (n : Int) % 7 := by omega
      have u4 : ¬ (0 : Int) < (n : Int) % 61 := by omega
      clear h2 g2 g3 g4
      go_enter Tryz.func53, Tryz.ntmps53
      go_wp2
      go_ret
      exact ⟨rfl, rfl⟩
     ·have u1 : (2 : Int) < (n : Int) := by omega
      have u2 : ((n : Int) % 2 == 1) = true := by rw [beq_iff_eq]; omega
      have u2' : (n : Int) % 2 = 1 := by omega
      have u3 : ¬ (0 : Int) < (n : Int) % 7 := by omega
      clear h2 g2 g3
      go_enter Tryz.func53, Tryz.ntmps53
      go_wp2
      go_ret
      exact ⟨rfl, rfl⟩
    ·have u1 : (2 : Int) < (n : Int) := by omega
     have u2 : ((n : Int) % 2 == 1) = false := by rw [beq_eq_false_iff_ne]; omega
     have u2' : (n : Int) % 2 = 0 := by omega
     clear h2 g2
     go_enter Tryz.func53, Tryz.ntmps53
     go_wp2
     go_ret
     exact ⟨rfl, rfl⟩
   ·have u1 : ¬ (2 : Int) < (n : Int) := by omega
    clear h2
    go_enter Tryz.func53, Tryz.ntmps53
    go_wp2
    go_ret
    exact ⟨rfl, rfl⟩
end
/- Wide integers: helpers and walks, in one text (KC1 KC2). -/
/- Plain: systems of primes; the integer with given residues. -/
section
open Go.RowKit PN
def Cg (m : Nat) (a b : Int) : Prop := (m : Int) ∣ a - b
theorem Cg.refl (m : Nat) (a : Int) : Cg m a a := ⟨0, by omega⟩
theorem Cg.symm {m : Nat} {a b : Int} (h : Cg m a b) : Cg m b a := by
 obtain ⟨c, hc⟩ := h; exact ⟨-c, by rw [Int.mul_neg]; omega⟩
theorem Cg.trans {m : Nat} {a b c : Int} (h : Cg m a b) (k : Cg m b c) : Cg m a c := by
 obtain ⟨x, hx⟩ := h; obtain ⟨y, hy⟩ := k; exact ⟨x + y, by rw [Int.mul_add]; omega⟩
theorem Cg.add {m : Nat} {a b c d : Int} (h : Cg m a b) (k : Cg m c d) : Cg m (a + c) (b + d) := by
 obtain ⟨x, hx⟩ := h; obtain ⟨y, hy⟩ := k; exact ⟨x + y, by rw [Int.mul_add]; omega⟩
theorem Cg.neg {m : Nat} {a b : Int} (h : Cg m a b) : Cg m (-a) (-b) := by
 obtain ⟨x, hx⟩ := h; exact ⟨-x, by rw [Int.mul_neg]; omega⟩
theorem Cg.sub {m : Nat} {a b c d : Int} (h : Cg m a b) (k : Cg m c d) : Cg m (a - c) (b - d) := by
 have := h.add k.neg
 rwa [← Int.sub_eq_add_neg, ← Int.sub_eq_add_neg] at this
theorem Cg.mul {m : Nat} {a b c d : Int} (h : Cg m a b) (k : Cg m c d) : Cg m (a * c) (b * d) := by
 have h1 : (m : Int) ∣ a * (c - d) := dvdM a k
 have h2 : (m : Int) ∣ d * (a - b) := dvdM d h
 have h3 := Int.dvd_add h1 h2
 unfold Cg
 rwa [show a * (c - d) + d * (a - b) = a * c - b * d by rw [Int.mul_sub, Int.mul_sub, Int.mul_comm d a, Int.mul_comm d b]; omega] at h3
theorem Cg.of_mod {m : Nat} {a : Int} : Cg m (a % m) a := by
 have := Int.mul_ediv_add_emod a m
 exact ⟨-(a / m), by rw [Int.mul_neg]; omega⟩
theorem Cg.modN {m a : Nat} : Cg m ((a % m : Nat) : Int) a := by
 rw [Int.natCast_emod]; exact Cg.of_mod
theorem Cg.zero {m : Nat} : Cg m (m : Int) 0 := ⟨1, by omega⟩
theorem Cg.eqN {m a b : Nat} (h : Cg m (a : Int) (b : Int)) (ha : a < m) (hb : b < m) : a = b := by
 obtain ⟨c, hc⟩ := h
 rcases Int.lt_or_le c 0 with h1 | h1
 ·have : (m : Int) * c ≤ (m : Int) * (-1) := Int.mul_le_mul_of_nonneg_left (by omega) (by omega)
  omega
 ·rcases Int.lt_or_le 0 c with h2 | h2
  ·have : (m : Int) * 1 ≤ (m : Int) * c := Int.mul_le_mul_of_nonneg_left (by omega) (by omega)
   omega
  ·have : c = 0 := by omega
   subst this
   omega
def invN (a n : Nat) : Nat := (invX n a 0 1 % (n : Int)).toNat
theorem invN_spec {a n : Nat} (h2 : 2 ≤ n) (hn : n < 4294967296) (ha : a < n) (hg : Nat.gcd n a = 1) : invN a n < n ∧ a * invN a n % n = 1 ∧ Cg n ((a : Int) * (invN a n : Nat)) 1 := by
 obtain ⟨u, q1, q2, q3, q4⟩ := invX_spec (m := n) (a := a) hn a a n 0 1 0 1 (Nat.le_refl _) ha (by omega) (by omega) (Or.inl ⟨rfl, rfl⟩) ⟨-1, by omega⟩ ⟨0, by omega⟩
 rw [hg] at q4
 unfold invN
 rw [q1]
 have h3 := Int.emod_nonneg u (show (n : Int) ≠ 0 by omega)
 have h4 := Int.emod_lt_of_pos u (show (0 : Int) < n by omega)
 obtain ⟨x, hx⟩ : ∃ x : Nat, x = (u % (n : Int)).toNat := ⟨_, rfl⟩
 have hx2 : (x : Int) = u % (n : Int) := by omega
 rw [← hx]
 have h5 : Cg n ((a : Int) * (x : Int)) 1 := by
  have h6 : Cg n ((x : Int) * a) (u * a) := (by rw [hx2]; exact Cg.of_mod : Cg n (x : Int) u).mul (Cg.refl n a)
  have h7 : Cg n (u * a) 1 := q4
  rw [Int.mul_comm]
  exact h6.trans h7
 refine ⟨by omega, ?_, h5⟩
 have h6 : Cg n ((a * x % n : Nat) : Int) ((1 : Nat) : Int) := Cg.modN.trans (by rw [Int.natCast_mul]; exact h5)
 exact h6.eqN (Nat.mod_lt _ (by omega)) (by omega)
/-! ### Lists of primes -/
def prodL : List Nat → Nat
 | [] => 1
 | p :: l => p * prodL l
theorem prodL_append (l m : List Nat) : prodL (l ++ m) = prodL l * prodL m := by
 induction l with
 | nil => simp [prodL]
 | cons p l ih => simp [prodL, ih, Nat.mul_assoc]
theorem prodL_snoc (l : List Nat) (p : Nat) : prodL (l ++ [p]) = prodL l * p := by rw [prodL_append]; simp [prodL]
theorem prodL_pos {l : List Nat} (h : ∀ p ∈ l, 0 < p) : 0 < prodL l := by
 induction l with
 | nil => simp [prodL]
 | cons p l ih => exact Nat.mul_pos (h p (by simp)) (ih fun q hq => h q (by simp [hq]))
theorem prodL_lt {l : List Nat} (h : ∀ p ∈ l, p < 4294967296) : prodL l ≤ 4294967296 ^ l.length := by
 induction l with
 | nil => simp [prodL]
 | cons p l ih =>
  rw [List.length_cons, Nat.pow_succ']
  exact Nat.mul_le_mul (Nat.le_of_lt (h p (by simp))) (ih fun q hq => h q (by simp [hq]))
def OkAt (l : List Nat) (p : Nat) : Prop := p % 2 = 1 ∧ p ≤ 2147483647 ∧ p ∉ l ∧ PrimeP p
def SysTo (ps : List Nat) (k : Nat) : Prop := ∀ i, i < k → ∀ p, ps[i]? = some p → OkAt (ps.take i) p
def SysP (ps : List Nat) : Prop := 1 ≤ ps.length ∧ ps.length ≤ 25 ∧ SysTo ps ps.length
def Sep (ps : List Nat) : Prop := ∀ i p, ps[i]? = some p → Pr p ∧ p % 2 = 1 ∧ p ≤ 2147483647 ∧ p ∉ ps.take i
theorem SysP.sep {ps : List Nat} (h : SysP ps) : Sep ps := by
 intro i p hp
 obtain ⟨h1, h2, h3, h4⟩ := h.2.2 i (List.getElem?_eq_some_iff.1 hp).1 p hp
 exact ⟨h4.pr (by omega), h1, h2, h3⟩
theorem Sep.take {ps : List Nat} (h : Sep ps) (k : Nat) : Sep (ps.take k) := by
 intro i p hp
 rw [List.getElem?_take] at hp
 split at hp
 ·rename_i hik
  obtain ⟨h1, h2, h3, h4⟩ := h i p hp
  refine ⟨h1, h2, h3, ?_⟩
  rwa [List.take_take, Nat.min_eq_left (by omega)]
 ·cases hp
theorem Sep.mem {ps : List Nat} (h : Sep ps) {p : Nat} (hp : p ∈ ps) : Pr p ∧ p % 2 = 1 ∧ p ≤ 2147483647 := by
 obtain ⟨i, hi⟩ := List.mem_iff_getElem?.1 hp
 obtain ⟨h1, h2, h3, -⟩ := h i p hi
 exact ⟨h1, h2, h3⟩
theorem pr_cop {p q : Nat} (hp : Pr p) (hq : Pr q) (hne : p ≠ q) : Nat.Coprime p q := hp.cop fun hd => hne (hp.eq_of_dvd hq hd)
theorem cop_prodL {p : Nat} {l : List Nat} (hp : Pr p) (h : ∀ q ∈ l, Pr q) (hn : p ∉ l) : Nat.Coprime p (prodL l) := by
 induction l with
 | nil => simp [prodL]
 | cons q l ih =>
  simp only [List.mem_cons, not_or] at hn
  exact Nat.Coprime.mul_right (pr_cop hp (h q (by simp)) hn.1) (ih (fun r hr => h r (by simp [hr])) hn.2)
theorem take_succ' {ps : List Nat} {i p : Nat} (h : ps[i]? = some p) : ps.take (i + 1) = ps.take i ++ [p] := by
 rw [List.take_add_one, h]; rfl
theorem Sep.dvd {ps : List Nat} (h : Sep ps) (z : Int) (hz : ∀ p ∈ ps, (p : Int) ∣ z) : ((prodL ps : Nat) : Int) ∣ z := by
 have key : ∀ k, k ≤ ps.length → ((prodL (ps.take k) : Nat) : Int) ∣ z := by
  intro k
  induction k with
  | zero => intro _; simp [prodL]
  | succ k ih =>
   intro hk
   have hp : ps[k]? = some ps[k] := List.getElem?_eq_getElem (by omega)
   rw [take_succ' hp, prodL_snoc]
   obtain ⟨h1, _, _, h4⟩ := h k _ hp
   have h5 := cop_prodL h1 (fun q hq => (h.mem (List.mem_of_mem_take hq)).1) h4
   have h6 := Int.natAbs_dvd_natAbs.2 (ih (by omega))
   have h7 := Int.natAbs_dvd_natAbs.2 (hz _ (List.mem_of_getElem? hp))
   rw [Int.natAbs_natCast] at h6 h7
   have h8 := Nat.Coprime.mul_dvd_of_dvd_of_dvd (Nat.coprime_comm.1 h5) h6 h7
   exact Int.natAbs_dvd_natAbs.1 (by rwa [Int.natAbs_natCast])
 have := key ps.length (Nat.le_refl _)
 rwa [List.take_length] at this
def IsCrt (ps rs : List Nat) (x : Nat) : Prop := x < prodL ps ∧ ∀ i p r : Nat, ps[i]? = some p → rs[i]? = some r → Cg p (x : Int) (r : Int)
theorem IsCrt.uniq {ps rs : List Nat} (hs : Sep ps) (hl : rs.length = ps.length) {x y : Nat} (hx : IsCrt ps rs x) (hy : IsCrt ps rs y) : x = y := by
 have h1 : Cg (prodL ps) (x : Int) (y : Int) := hs.dvd _ fun p hp => by
  obtain ⟨i, hi⟩ := List.mem_iff_getElem?.1 hp
  have hil : i < rs.length := by rw [hl]; exact (List.getElem?_eq_some_iff.1 hi).1
  have hr : rs[i]? = some rs[i] := List.getElem?_eq_getElem hil
  exact (hx.2 i p _ hi hr).trans (hy.2 i p _ hi hr).symm
 exact h1.eqN hx.1 hy.1
theorem IsCrt.step {ps rs : List Nat} {i p r x d : Nat} (hs : Sep ps) (hp : ps[i]? = some p) (hr : rs[i]? = some r) (hx : IsCrt (ps.take i) (rs.take i) x) (hd : d < p) (hc : Cg p ((x + prodL (ps.take i) * d : Nat) : Int) (r : Int)) :
  IsCrt (ps.take (i + 1)) (rs.take (i + 1)) (x + prodL (ps.take i) * d) := by
 have hpl : i < ps.length := (List.getElem?_eq_some_iff.1 hp).1
 have hrl : i < rs.length := (List.getElem?_eq_some_iff.1 hr).1
 rw [take_succ' hp, take_succ' hr]
 refine ⟨?_, fun k q s hq hs' => ?_⟩
 ·rw [prodL_snoc]
  have h1 := hx.1
  have h2 : prodL (ps.take i) * (d + 1) ≤ prodL (ps.take i) * p := Nat.mul_le_mul_left _ hd
  rw [Nat.mul_add, Nat.mul_one] at h2
  omega
 ·rcases Nat.lt_trichotomy k i with hlt | rfl | hgt
  ·rw [List.getElem?_append_left (by rw [List.length_take]; omega)] at hq hs'
   have h1 := hx.2 k q s hq hs'
   have hqm : q ∈ ps.take i := List.mem_of_getElem? hq
   have h2 : q ∣ prodL (ps.take i) := by
    obtain ⟨a, b, hab⟩ := List.append_of_mem hqm
    rw [hab, prodL_append]
    exact ⟨prodL a * prodL b, by simp [prodL, Nat.mul_left_comm]⟩
   have h3 : Cg q ((prodL (ps.take i) * d : Nat) : Int) 0 := by
    obtain ⟨c, hc⟩ := h2
    rw [hc]
    exact ⟨((c * d : Nat) : Int), by simp [Int.mul_assoc]⟩
   have h4 := h1.add h3
   rw [Int.add_zero] at h4
   rwa [Int.natCast_add]
  ·rw [List.getElem?_append_right (by rw [List.length_take]; omega)] at hq hs'
   rw [List.length_take, Nat.min_eq_left (by omega)] at hq hs'
   simp at hq hs'
   subst hq hs'
   exact hc
  ·rw [List.getElem?_append_right (by rw [List.length_take]; omega), List.length_take, Nat.min_eq_left (by omega)] at hq
   obtain ⟨m, hm⟩ := Nat.exists_eq_succ_of_ne_zero (show k - i ≠ 0 by omega)
   rw [hm] at hq
   simp at hq
end
/- Plain: digits of mixed radix; the integer prime by prime; division by the last prime. -/
section
open Go.RowKit PN
def gst (p q o d : Nat) : Nat := (d + p - o % p) % p * invN (q % p) p % p
def gfold (p : Nat) : List Nat → List Nat → Nat → Nat
 | q :: qs, o :: os, d => gfold p qs os (gst p q o d)
 | _, _, d => d
theorem gfold_nil (p d : Nat) (os : List Nat) : gfold p [] os d = d := by cases os <;> rfl
theorem gfold_snoc (p q o : Nat) : ∀ (qs os : List Nat) (d : Nat), qs.length = os.length → gfold p (qs ++ [q]) (os ++ [o]) d = gst p q o (gfold p qs os d)
 | [], [], d, _ => rfl
 | [], o' :: os, d, h => by simp at h
 | q' :: qs, [], d, h => by simp at h
 | q' :: qs, o' :: os, d, h => gfold_snoc p q o qs os (gst p q' o' d) (by simpa using h)
def digL (ps rs : List Nat) : Nat → List Nat
 | 0 => []
 | i + 1 => digL ps rs i ++ [gfold (ps.getD i 0) (ps.take i) (digL ps rs i) (rs.getD i 0)]
def dgt (ps rs : List Nat) (i : Nat) : Nat := gfold (ps.getD i 0) (ps.take i) (digL ps rs i) (rs.getD i 0)
theorem digL_len (ps rs : List Nat) : ∀ i, (digL ps rs i).length = i
 | 0 => rfl
 | i + 1 => by simp [digL, digL_len ps rs i]
theorem digL_map (ps rs : List Nat) : ∀ i, digL ps rs i = (List.range i).map (dgt ps rs)
 | 0 => rfl
 | i + 1 => by rw [List.range_succ, List.map_append, ← digL_map ps rs i]; rfl
theorem digL_get (ps rs : List Nat) {i k : Nat} (h : k < i) : (digL ps rs i)[k]? = some (dgt ps rs k) := by
 rw [digL_map, List.getElem?_map, List.getElem?_range h]; rfl
def mvL : List Nat → List Nat → Nat
 | p :: ps, d :: ds => d + p * mvL ps ds
 | _, _ => 0
theorem mvL_snoc (p d : Nat) : ∀ (ps ds : List Nat), ps.length = ds.length → mvL (ps ++ [p]) (ds ++ [d]) = mvL ps ds + prodL ps * d
 | [], [], _ => by simp [mvL, prodL]
 | [], _ :: _, h => by simp at h
 | _ :: _, [], h => by simp at h
 | q :: ps, e :: ds, h => by
  show e + q * mvL (ps ++ [p]) (ds ++ [d]) = e + q * mvL ps ds + q * prodL ps * d
  rw [mvL_snoc p d ps ds (by simpa using h), Nat.mul_add, Nat.mul_assoc]
  omega
theorem gst_cg {p q o d : Nat} (hp : 2 ≤ p) (hp2 : p < 4294967296) (hg : Nat.gcd p (q % p) = 1) : gst p q o d < p ∧ Cg p ((q : Int) * (gst p q o d : Nat)) ((d : Int) - o) := by
 obtain ⟨h1, h2, h3⟩ := invN_spec hp hp2 (Nat.mod_lt q (by omega)) hg
 refine ⟨Nat.mod_lt _ (by omega), ?_⟩
 have h4 : Cg p ((gst p q o d : Nat) : Int) (((d : Int) - o) * (invN (q % p) p : Nat)) := by
  refine Cg.modN.trans ?_
  rw [Int.natCast_mul]
  refine Cg.mul ?_ (Cg.refl _ _)
  refine Cg.modN.trans ?_
  have h5 : o % p < p := Nat.mod_lt _ (by omega)
  rw [show ((d + p - o % p : Nat) : Int) = ((d : Int) - ((o % p : Nat) : Int)) + p by omega]
  have h6 := ((Cg.refl p (d : Int)).sub (Cg.modN (m := p) (a := o))).add Cg.zero
  rwa [Int.add_zero] at h6
 have h5 : Cg p ((q : Int) * (invN (q % p) p : Nat)) 1 := ((Cg.modN (m := p) (a := q)).symm.mul (Cg.refl _ _)).trans h3
 have h6 := (Cg.refl p (q : Int)).mul h4
 refine h6.trans ?_
 rw [Int.mul_left_comm]
 have h7 := (Cg.refl p ((d : Int) - o)).mul h5
 rwa [Int.mul_one] at h7
theorem Sep.gcd_mod {ps : List Nat} (h : Sep ps) {i k p q : Nat} (hp : ps[i]? = some p) (hq : ps[k]? = some q) (hki : k < i) : Nat.gcd p (q % p) = 1 := by
 obtain ⟨h1, _, _, h4⟩ := h i p hp
 obtain ⟨k1, _, _, _⟩ := h k q hq
 have hne : p ≠ q := fun e => h4 (by rw [e]; exact List.mem_of_getElem? (by rw [List.getElem?_take, if_pos hki]; exact hq))
 have h5 := pr_cop h1 k1 hne
 rw [Nat.gcd_comm, ← Nat.gcd_rec]
 exact h5
def RowP (ps rs : List Nat) : Prop := rs.length = ps.length ∧ ∀ i p r : Nat, ps[i]? = some p → rs[i]? = some r → r < p
theorem getD_some {l : List Nat} {i x : Nat} (h : l[i]? = some x) : l.getD i 0 = x := by simp [List.getD, h]
theorem garner_in {ps rs : List Nat} (hs : Sep ps) (hr : RowP ps rs) {i p r : Nat} (hp : ps[i]? = some p) (hri : rs[i]? = some r) :
  ∀ k, k ≤ i → gfold p (ps.take k) (digL ps rs k) r < p ∧ Cg p (((mvL (ps.take k) (digL ps rs k) : Nat) : Int) + (prodL (ps.take k) : Nat) * (gfold p (ps.take k) (digL ps rs k) r : Nat)) (r : Int) := by
 have hil : i < ps.length := (List.getElem?_eq_some_iff.1 hp).1
 obtain ⟨p1, _, p3, _⟩ := hs i p hp
 intro k
 induction k with
 | zero =>
  intro _
  refine ⟨hr.2 i p r hp hri, ?_⟩
  simp [digL, gfold_nil, mvL, prodL]
  exact Cg.refl _ _
 | succ k ih =>
  intro hk
  obtain ⟨h1, h2⟩ := ih (by omega)
  have hq : ps[k]? = some ps[k] := List.getElem?_eq_getElem (by omega)
  have hlen : (ps.take k).length = (digL ps rs k).length := by rw [digL_len, List.length_take]; omega
  obtain ⟨g1, g2⟩ := gst_cg (o := dgt ps rs k) (d := gfold p (ps.take k) (digL ps rs k) r) p1.1 (by omega) (hs.gcd_mod hp hq (by omega))
  have e1 : digL ps rs (k + 1) = digL ps rs k ++ [dgt ps rs k] := rfl
  rw [take_succ' hq, e1, gfold_snoc p _ _ _ _ _ hlen, mvL_snoc _ _ _ _ hlen, prodL_snoc]
  refine ⟨g1, ?_⟩
  refine Cg.trans ?_ h2
  rw [Int.natCast_add, Int.natCast_mul, Int.natCast_mul, Int.mul_assoc]
  have h3 := (Cg.refl p ((prodL (ps.take k) : Nat) : Int)).mul g2
  rw [Int.mul_sub] at h3
  have h4 := (Cg.refl p (((mvL (ps.take k) (digL ps rs k) : Nat) : Int) + (prodL (ps.take k) : Nat) * (dgt ps rs k : Nat))).add h3
  rwa [show ((mvL (ps.take k) (digL ps rs k) : Nat) : Int) + (prodL (ps.take k) : Nat) * (dgt ps rs k : Nat) + (((prodL (ps.take k) : Nat) : Int) * (gfold p (ps.take k) (digL ps rs k) r : Nat) - (prodL (ps.take k) : Nat) * (dgt ps rs k : Nat)) = ((mvL (ps.take k) (digL ps rs k) : Nat) : Int) + (prodL (ps.take k) : Nat) * (gfold p (ps.take k) (digL ps rs k) r : Nat) by omega] at h4
theorem dgt_eq {ps rs : List Nat} {i p r : Nat} (hp : ps[i]? = some p) (hri : rs[i]? = some r) : dgt ps rs i = gfold p (ps.take i) (digL ps rs i) r := by
 unfold dgt; rw [getD_some hp, getD_some hri]
theorem garner {ps rs : List Nat} (hs : Sep ps) (hr : RowP ps rs) : ∀ i, i ≤ ps.length → IsCrt (ps.take i) (rs.take i) (mvL (ps.take i) (digL ps rs i)) := by
 intro i
 induction i with
 | zero => intro _; exact ⟨by simp [mvL, prodL], fun k q s hq => by simp at hq⟩
 | succ i ih =>
  intro hi
  have hp : ps[i]? = some ps[i] := List.getElem?_eq_getElem (by omega)
  have hrl : i < rs.length := by rw [hr.1]; omega
  have hri : rs[i]? = some rs[i] := List.getElem?_eq_getElem hrl
  obtain ⟨g1, g2⟩ := garner_in hs hr hp hri i (Nat.le_refl _)
  have hlen : (ps.take i).length = (digL ps rs i).length := by rw [digL_len, List.length_take]; omega
  have e1 : digL ps rs (i + 1) = digL ps rs i ++ [dgt ps rs i] := rfl
  have h2 := (ih (by omega)).step hs hp hri (d := dgt ps rs i) (by rw [dgt_eq hp hri]; exact g1) (by rw [Int.natCast_add, Int.natCast_mul, dgt_eq hp hri]; exact g2)
  rwa [take_succ' hp, e1, mvL_snoc _ _ _ _ hlen, ← take_succ' hp]
theorem garner_all {ps rs : List Nat} (hs : Sep ps) (hr : RowP ps rs) : IsCrt ps rs (mvL ps (digL ps rs ps.length)) := by
 have := garner hs hr ps.length (Nat.le_refl _)
 rwa [List.take_length, show rs.take ps.length = rs by rw [← hr.1, List.take_length]] at this
theorem dgt_lt {ps rs : List Nat} (hs : Sep ps) (hr : RowP ps rs) {i p : Nat} (hp : ps[i]? = some p) : dgt ps rs i < p := by
 have hil : i < ps.length := (List.getElem?_eq_some_iff.1 hp).1
 have hrl : i < rs.length := by rw [hr.1]; omega
 have hri : rs[i]? = some rs[i] := List.getElem?_eq_getElem hrl
 rw [dgt_eq hp hri]
 exact (garner_in hs hr hp hri i (Nat.le_refl _)).1
theorem mvL_drop {ps ds : List Nat} {k p d : Nat} (hp : ps[k]? = some p) (hd : ds[k]? = some d) : mvL (ps.drop k) (ds.drop k) = d + p * mvL (ps.drop (k + 1)) (ds.drop (k + 1)) := by
 obtain ⟨h1, h2⟩ := List.getElem?_eq_some_iff.1 hp
 obtain ⟨h3, h4⟩ := List.getElem?_eq_some_iff.1 hd
 rw [List.drop_eq_getElem_cons h1, List.drop_eq_getElem_cons h3, h2, h4]
 rfl
theorem mvL_lt : ∀ (ps ds : List Nat), (∀ p ∈ ps, 0 < p) → (∀ i p d : Nat, ps[i]? = some p → ds[i]? = some d → d < p) → mvL ps ds < prodL ps
 | [], ds, _, _ => by cases ds <;> simp [mvL, prodL]
 | p :: ps, [], h, _ => by
  show 0 < prodL (p :: ps)
  exact prodL_pos h
 | p :: ps, d :: ds, h, hd => by
  show d + p * mvL ps ds < p * prodL ps
  have h1 := mvL_lt ps ds (fun q hq => h q (by simp [hq])) (fun i q e hq he => hd (i + 1) q e (by simpa using hq) (by simpa using he))
  have h2 := hd 0 p d rfl rfl
  have h3 : p * (mvL ps ds + 1) ≤ p * prodL ps := Nat.mul_le_mul_left _ h1
  rw [Nat.mul_add, Nat.mul_one] at h3
  omega
theorem ref_step {ps rs : List Nat} (hs : Sep ps) (hr : RowP ps rs) {i p r x : Nat} (hp : ps[i]? = some p) (hri : rs[i]? = some r) (hx : IsCrt (ps.take i) (rs.take i) x) :
  Nat.gcd p (prodL (ps.take i) % p) = 1 ∧ IsCrt (ps.take (i + 1)) (rs.take (i + 1)) (x + prodL (ps.take i) * ((r + p - x % p) % p * invN (prodL (ps.take i) % p) p % p)) := by
 obtain ⟨p1, _, p3, p4⟩ := hs i p hp
 have hg : Nat.gcd p (prodL (ps.take i) % p) = 1 := by
  have h5 := cop_prodL p1 (fun q hq => (hs.mem (List.mem_of_mem_take hq)).1) p4
  rw [Nat.gcd_comm, ← Nat.gcd_rec]
  exact h5
 refine ⟨hg, ?_⟩
 obtain ⟨g1, g2⟩ := gst_cg (o := x) (d := r) p1.1 (show p < 4294967296 by omega) hg
 refine hx.step hs hp hri g1 ?_
 rw [Int.natCast_add, Int.natCast_mul]
 have h3 := (Cg.refl p (x : Int)).add g2
 rwa [show (x : Int) + ((r : Int) - x) = r by omega] at h3
end
/- Wide integers: helpers and walks, in one text (KD1 KD2 KD3 KD4). -/
/- Walks: a system of the program's; whether residues are a row; residues of an integer. -/
section
open Go.RowKit Go.Shelf Go.WideNum PN
def invRow (ps : List Nat) (i : Nat) : List Nat := (ps.take i).map fun q => invN (q % ps.getD i 0) (ps.getD i 0)
def invRows (ps : List Nat) : List (List Nat) := (List.range ps.length).map (invRow ps)
def SysAt (w : World) (b : Nat) (ps : List Nat) : Prop := ∃ lv iv, w.heap[b]? = some (.cells #[lv, .bool (zN (prodL ps)), .string (zT (prodL ps)), iv, .bool true] 82) ∧ w.reads w.heap.size lv (ps.map u32V) ∧ w.rows u32V w.heap.size iv (invRows ps)
theorem SysAt.below {w w' : World} {b : Nat} {ps : List Nat} (h : SysAt w b ps) (hb : Below w.heap.size w w') : SysAt w' b ps := by
 obtain ⟨lv, iv, h1, h2, h3⟩ := h
 exact ⟨lv, iv, (hb.block _ (lt_of_heap h1)).trans h1, (h2.below hb).mono hb.size, (h3.below hb).mono hb.size⟩
theorem SysAt.alloc {w : World} {b : Nat} {ps : List Nat} (h : SysAt w b ps) (o : Obj) : SysAt (w.alloc o) b ps := h.below ((Below.refl _ _).alloc (Nat.le_refl _) _)
theorem five_sys {w : World} {b : Nat} {v0 v1 v2 v3 v4 : Value} {T : TypeId} (h : w.heap[b]? = some (.cells #[v0, v1, v2, v3, v4] T)) :
    w.cell? ⟨b, 0, none⟩ = some v0 ∧ w.cell? ⟨b, 1, none⟩ = some v1 ∧ w.cell? ⟨b, 2, none⟩ = some v2 ∧ w.cell? ⟨b, 3, none⟩ = some v3 ∧ w.cell? ⟨b, 4, none⟩ = some v4 ∧
    w.frozen? ⟨b, 0, none⟩ = false ∧ w.frozen? ⟨b, 1, none⟩ = false ∧ w.frozen? ⟨b, 2, none⟩ = false ∧ w.frozen? ⟨b, 3, none⟩ = false :=
  ⟨by rw [cell_of_row w b 0 _ _ (0, 0) h]; rfl, by rw [cell_of_row w b 1 _ _ (0, 0) h]; rfl, by rw [cell_of_row w b 2 _ _ (0, 0) h]; rfl, by rw [cell_of_row w b 3 _ _ (0, 0) h]; rfl, by rw [cell_of_row w b 4 _ _ (0, 0) h]; rfl,
   by simp [World.frozen?, h], by simp [World.frozen?, h], by simp [World.frozen?, h], by simp [World.frozen?, h]⟩
theorem none_sys (b : Nat) (ps : List Nat) (w : World) (h : SysAt w b ps) : Calls Tryz.prog 46 #[.pointer (some ⟨b, 0, none⟩)] w fun e w' => e = .returned (.bool false) ∧ w = w' := by
 obtain ⟨lv, iv, h1, -, -⟩ := h
 obtain ⟨-, -, -, -, c4, -⟩ := five_sys h1
 clear h1
 go_enter Tryz.func46, Tryz.ntmps46
 go_wp2
 go_ret
 exact ⟨rfl, rfl⟩
theorem rowP_to {ps rs : List Nat} (h : ∀ j, j < ps.length → ∀ p r : Nat, ps[j]? = some p → rs[j]? = some r → r < p) (hl : rs.length = ps.length) : RowP ps rs :=
 ⟨hl, fun i p r hp hr => h i (List.getElem?_eq_some_iff.1 hp).1 p r hp hr⟩
theorem row_any (b : Nat) (ps rs : List Nat) (rv : Value) (w : World) (hs : SysAt w b ps) (hr : w.reads w.heap.size rv (rs.map u32V)) (ok : Bool) (hok : ok = true ↔ RowP ps rs) :
  Calls Tryz.prog 47 #[.pointer (some ⟨b, 0, none⟩), rv] w fun e w' => e = .returned (.bool ok) ∧ w = w' := by
 obtain ⟨lv, iv, h1, h2, -⟩ := hs
 obtain ⟨c0, -⟩ := five_sys h1
 have hl1 := hr.le_map
 have hl2 := h2.le_map
 obtain ⟨ra, rc, rfl, hrc, hrm, hrs⟩ := reads_u32 hr
 obtain ⟨pa, pc, rfl, hpc, hpm, hps⟩ := reads_u32 h2
 have HOK := Lib.hid hok
 have HR := Lib.hid hrs
 have HS := Lib.hid hps
 clear h1 h2 hr hrs hps hok
 by_cases hlen : rs.length = ps.length
 ·have HLEN := Lib.hid hlen
  obtain ⟨n, hn⟩ : ∃ n, n = ps.length := ⟨_, rfl⟩
  rw [hlen, ← hn] at hl1 hrc ⊢
  rw [← hn] at hpc hl2 c0
  have HN := Lib.hid hn
  clear hlen hn
  have t0 : ((n : Int) != (n : Int)) = false := by simp
  go_enter Tryz.func47, Tryz.ntmps47
  go_wp2_with fail
  go_loop [17] (fun iv => ∃ k : Nat, k ≤ n ∧ iv = .int .i64 (k : Int) ∧ Hid (∀ j, j < k → ∀ p r : Nat, ps[j]? = some p → rs[j]? = some r → r < p)) (fun iv => n - (intOf iv).toNat)
  case atStart => exact ⟨0, Nat.zero_le _, rfl, fun j hj => by omega⟩
  case round =>
   obtain ⟨k, hk, rfl, hall⟩ := hrel
   by_cases hlt : k < n
   ·have hkp : k < ps.length := by rw [← HN.out]; exact hlt
    have hkr : k < rs.length := by rw [HLEN.out]; exact hkp
    obtain ⟨p, hp⟩ : ∃ p, ps[k]? = some p := ⟨ps[k], List.getElem?_eq_getElem hkp⟩
    obtain ⟨r, hr⟩ : ∃ r, rs[k]? = some r := ⟨rs[k], List.getElem?_eq_getElem hkr⟩
    obtain ⟨b1, o1, rfl, _, d1⟩ := HR.out k r hr
    obtain ⟨b2, o2, rfl, _, d2⟩ := HS.out k p hp
    have HP := Lib.hid hp
    have HRR := Lib.hid hr
    clear hp hr hkp hkr
    by_cases hrp : r < p
    ·have hnge : ¬ (p : Int) ≤ (r : Int) := by omega
     have HALL : Hid (∀ j, j < k + 1 → ∀ p r : Nat, ps[j]? = some p → rs[j]? = some r → r < p) := fun j hj p' r' hp' hr' => by
      rcases (show j < k ∨ j = k by omega) with h | rfl
      ·exact hall.out j h p' r' hp' hr'
      ·rw [HP.out] at hp'; rw [HRR.out] at hr'
       injection hp' with hp'; injection hr' with hr'
       omega
     clear hall
     go_wp2_with fail
     go_round
     case rel => exact ⟨k + 1, by omega, by go_num, HALL.out⟩
     case measure => simp [intOf]; omega
    ·have hge : (p : Int) ≤ (r : Int) := by omega
     obtain rfl : ok = false := by
      cases h : ok
      ·rfl
      ·exact absurd ((HOK.out.1 h).2 k p r HP.out HRR.out) hrp
     clear hall
     go_wp2
     go_ret
     exact ⟨rfl, rfl⟩
   ·obtain rfl : ok = true := HOK.out.2 (rowP_to (fun j hj => hall.out j (by have := HN.out; omega)) HLEN.out)
    clear hall
    go_wp2
    go_ret
    exact ⟨rfl, rfl⟩
 ·obtain rfl : ok = false := by
   cases h : ok
   ·rfl
   ·exact absurd (HOK.out.1 h).1 hlen
  have t0 : ((rs.length : Int) != (ps.length : Int)) = true := by rw [bne_iff_ne]; omega
  go_enter Tryz.func47, Tryz.ntmps47
  go_wp2
  go_ret
  exact ⟨rfl, rfl⟩
def RowRet (w : World) (rs : List Nat) (e : Ending) (w' : World) : Prop := ∃ v, e = .returned v ∧ w'.owns w.heap.size 22 1 v rs.length (rs.map u32V) ∧ Below w.heap.size w w'
theorem rowF_owns {W : World} {base g n : Nat} {f : Nat → Nat} (hg : W.heap[g]? = some (.cells (rowF f n) 22)) (hb : base ≤ g) (hn : n ≤ 100000) : W.owns base 22 1 (.slice (some ⟨g, 0, none⟩) n n) n (((List.range n).map f).map u32V) := by
 refine ⟨by simp, .inr ⟨g, n, _, (0, 0), rfl, hb, hg, okFz_zero _, Nat.le_refl _, by unfold maxLen; omega, by simp [rowF], ?_⟩⟩
 simp only [rowF, Nat.mul_one]
 exact List.take_of_length_le (by simp)
theorem make_words (n : Nat) (hn : n ≤ 100000) (W : World) : (Instr.makeSlice 23 (.int .i64 (n : Int)) (.int .i64 (n : Int))).run Tryz.prog W = .ok (.slice (some ⟨W.heap.size, 0, none⟩) n n) (W.alloc (.cells (zrow n) 22)) := make_u322 n n (Nat.le_refl _) hn W
end
/- Walks: digits of mixed radix. -/
section
open Go.RowKit Go.Shelf Go.WideNum PN
theorem one_cell {W : World} {b : Nat} {v : Value} {T : TypeId} (h : W.heap[b]? = some (.cells #[v] T)) : W.cell? ⟨b, 0, none⟩ = some v ∧ W.frozen? ⟨b, 0, none⟩ = false :=
 ⟨by rw [cell_of_row W b 0 _ _ (0, 0) h]; rfl, by simp [World.frozen?, h]⟩
theorem one_set {W : World} {b : Nat} {v u : Value} {T : TypeId} (h : W.heap[b]? = some (.cells #[v] T)) : (W.setCell ⟨b, 0, none⟩ u).heap[b]? = some (.cells #[u] T) := by
 simp [World.setCell, Array.getElem?_modify, h]
theorem set_other {W : World} {b k o : Nat} {u : Value} {X : Option Obj} (h : W.heap[k]? = X) (hne : k ≠ b) : (W.setCell ⟨b, o, none⟩ u).heap[k]? = X := by
 rw [Below.heap_setCell _ _ _ _ (by simpa using hne)]; exact h
theorem step1_any (pd pmm po pss pi g n b k i d m o iv B : Nat) (ra : Option Addr) (rc il ic : Nat) (ib io rb ro : Nat) (rl : Nat) (w : World)
  (cd : w.cell? ⟨pd, 0, none⟩ = some (.int .u64 (d : Int))) (fd : w.frozen? ⟨pd, 0, none⟩ = false) (cm : w.cell? ⟨pmm, 0, none⟩ = some (.int .u64 (m : Int)))
  (co : w.cell? ⟨po, 0, none⟩ = some (.slice (some ⟨g, 0, none⟩) n n)) (cs : w.cell? ⟨pss, 0, none⟩ = some (.pointer (some ⟨b, 0, none⟩))) (ci : w.cell? ⟨pi, 0, none⟩ = some (.int .i64 (i : Int)))
  (ck : w.cell? ⟨g, k, none⟩ = some (.int .u32 (o : Int))) (cv : w.cell? ⟨b, 3, none⟩ = some (.slice (some ⟨ib, io, none⟩) il ic))
  (cr : w.cell? ⟨ib, io + i, none⟩ = some (.slice (some ⟨rb, ro, none⟩) rl rc)) (cx : w.cell? ⟨rb, ro + k, none⟩ = some (.int .u32 (iv : Int)))
  (hk : k < n) (hn : n ≤ 100) (hi : i < il) (hic : il ≤ ic) (hil : il ≤ 100) (hkr : k < rl) (hrl : rl ≤ 100) (hrc : rl ≤ rc) (hd : d < m) (hm0 : 2 ≤ m) (hm : m ≤ 2147483647) (ho : o < 4294967296) (hiv : iv < m) (z : Nat) (hz : z = (d + m - o % m) % m * iv % m) :
  Calls Tryz.prog 95 #[.int .i64 (k : Int), .pointer (some ⟨pd, 0, none⟩), .pointer (some ⟨pmm, 0, none⟩), .pointer (some ⟨po, 0, none⟩), .pointer (some ⟨pss, 0, none⟩), .pointer (some ⟨pi, 0, none⟩)] w
   fun e w' => (∃ v, e = .returned v) ∧ ∃ nq, w' = (w.setCell ⟨pd, 0, none⟩ (.int .u64 (z : Int))).drewN nq := by
 have h0 : ((m : Int) == 0) = false := by rw [beq_eq_false_iff_ne]; omega
 have h0' : ¬ m = 0 := by omega
 have e0 : (d : Int) + (m : Int) = ((d + m : Nat) : Int) := by omega
 obtain ⟨dm, edm⟩ : ∃ y, y = d + m := ⟨_, rfl⟩
 obtain ⟨om, eom⟩ : ∃ y, y = o % m := ⟨_, rfl⟩
 obtain ⟨df, edf⟩ : ∃ y, y = dm - om := ⟨_, rfl⟩
 obtain ⟨dr, edr⟩ : ∃ y, y = df % m := ⟨_, rfl⟩
 obtain ⟨pr, epr⟩ : ∃ y, y = dr * iv := ⟨_, rfl⟩
 have hom : om < m := by rw [eom]; exact Nat.mod_lt _ (by omega)
 have hdr : dr < m := by rw [edr]; exact Nat.mod_lt _ (by omega)
 have hpr : pr < 2147483647 * 2147483647 := by rw [epr]; exact Nat.mul_lt_mul'' (by omega) (by omega)
 have hz2 : z = pr % m := by rw [hz, epr, edr, edf, eom, edm]
 have f1 : IntKind.u64.wrap ((d : Int) + (m : Int)) = (dm : Int) := by rw [IntKind.wrap_u64]; omega
 have f2 : IntKind.u64.wrap (o : Int) = (o : Int) := by rw [IntKind.wrap_u64]; omega
 have f3 : (o : Int).tmod (m : Int) = (om : Int) := by rw [Int.tmod_eq_emod_of_nonneg (by omega), eom, Int.natCast_emod]
 have f4 : IntKind.u64.wrap ((dm : Int) - (om : Int)) = (df : Int) := by rw [IntKind.wrap_u64]; omega
 have f5 : (df : Int).tmod (m : Int) = (dr : Int) := by rw [Int.tmod_eq_emod_of_nonneg (by omega), edr, Int.natCast_emod]
 have f6 : IntKind.u64.wrap (iv : Int) = (iv : Int) := by rw [IntKind.wrap_u64]; omega
 have f7 : IntKind.u64.wrap ((dr : Int) * (iv : Int)) = (pr : Int) := by
  rw [show ((dr : Int) * (iv : Int)) = (pr : Int) by rw [epr]; simp, IntKind.wrap_u64]; omega
 have f8 : (pr : Int).tmod (m : Int) = (z : Int) := by rw [Int.tmod_eq_emod_of_nonneg (by omega), hz2, Int.natCast_emod]
 have g1 : (k : Int) < (n : Int) := by omega
 have g2 : (i : Int) < (il : Int) := by omega
 have g3 : (k : Int) < (rl : Int) := by omega
 have g4 : (0 : Int) ≤ (k : Int) := by omega
 have g5 : (0 : Int) ≤ (i : Int) := by omega
 clear hz hz2 epr edr edf eom edm e0
 go_enter Tryz.func95, Tryz.ntmps95
 go_wp2_with fail
 with_reducible first | refine wp_region_quiet_tail_at 27 (by kernel_rfl) (by kernel_rfl) ?_ | refine wp_region_quiet_tail_lit 27 (by kernel_rfl) (by kernel_rfl) ?_
 simp only [List.take_succ_cons, List.take_zero, List.drop_succ_cons, List.drop_zero]
 repeat (go_big_quiet_step (fail))
 refine wpQuiet_nil ?_
 rintro _ ⟨nq, rfl⟩
 have cd2 : (w.drewN nq).cell? ⟨pd, 0, none⟩ = some (.int .u64 (d : Int)) := cd
 have fd2 : (w.drewN nq).frozen? ⟨pd, 0, none⟩ = false := fd
 go_wp2
 go_end0
 exact ⟨⟨_, rfl⟩, nq, rfl⟩
def dgrow (ps rs : List Nat) (n k : Nat) : Array Value := rowF (fun i => if i < k then dgt ps rs i else 0) n
theorem dgrow_zero (ps rs : List Nat) (n : Nat) : dgrow ps rs n 0 = zrow n := by unfold dgrow; rw [rowF_congr (f' := fun _ => 0) (fun j _ => if_neg (by omega)), rowF_zero]
structure DgSt (w wr : World) (b n : Nat) (ps rs : List Nat) (k : Nat) : Prop where
 h0 : wr.heap[w.heap.size]? = some (.cells #[.pointer (some ⟨b, 0, none⟩)] 109)
 h1 : wr.heap[w.heap.size + 1]? = some (.cells (dgrow ps rs n k) 22)
 h2 : wr.heap[w.heap.size + 2]? = some (.cells #[.slice (some ⟨w.heap.size + 1, 0, none⟩) n n] 23)
 bel : Below w.heap.size w wr
theorem DgSt.below {w wr w' : World} {b n k : Nat} {ps rs : List Nat} (h : DgSt w wr b n ps rs k) (hs : w.heap.size + 3 ≤ wr.heap.size) (hb : Below wr.heap.size wr w') : DgSt w w' b n ps rs k :=
 ⟨(hb.block _ (by omega)).trans h.h0, (hb.block _ (by omega)).trans h.h1, (hb.block _ (by omega)).trans h.h2, h.bel.trans (hb.mono h.bel.size)⟩
theorem DgSt.size {w wr : World} {b n k : Nat} {ps rs : List Nat} (h : DgSt w wr b n ps rs k) : w.heap.size + 3 ≤ wr.heap.size := by
 have := lt_of_heap h.h2; omega
theorem DgSt.set {w wr : World} {b n k : Nat} {ps rs : List Nat} (h : DgSt w wr b n ps rs k) {g o : Nat} (hg : w.heap.size + 3 ≤ g) (u : Value) : DgSt w (wr.setCell ⟨g, o, none⟩ u) b n ps rs k :=
 ⟨set_other h.h0 (by omega), set_other h.h1 (by omega), set_other h.h2 (by omega), h.bel.setCell (by simp; omega) _⟩
theorem DgSt.drewN {w wr : World} {b n k : Nat} {ps rs : List Nat} (h : DgSt w wr b n ps rs k) (m : Nat) : DgSt w (wr.drewN m) b n ps rs k := ⟨h.h0, h.h1, h.h2, below_drewN h.bel m⟩
theorem invRows_get {ps : List Nat} {i p : Nat} (hp : ps[i]? = some p) : (invRows ps)[i]? = some ((ps.take i).map fun q => invN (q % p) p) := by
 have hil : i < ps.length := (List.getElem?_eq_some_iff.1 hp).1
 unfold invRows invRow
 rw [List.getElem?_map, List.getElem?_range hil]
 simp only [Option.map_some, getD_some hp]
theorem DgSt.push {w wr : World} {b n k : Nat} {ps rs : List Nat} (h : DgSt w wr b n ps rs k) : DgSt w (wr.setCell ⟨w.heap.size + 1, k, none⟩ (.int .u32 (dgt ps rs k : Int))) b n ps rs (k + 1) := by
 refine ⟨set_other h.h0 (by omega), ?_, set_other h.h2 (by omega), h.bel.setCell (by simp) _⟩
 have h5 := rowF_set (k := k) (f' := fun i => if i < k + 1 then dgt ps rs i else 0) h.h1 (fun j hj hne => by
  by_cases h : j < k
  ·rw [if_pos h, if_pos (by omega)]
  ·rw [if_neg h, if_neg (by omega)])
 rw [show (if k < k + 1 then dgt ps rs k else 0) = dgt ps rs k by rw [if_pos (by omega)]] at h5
 exact h5
structure InSt (w wr : World) (b n : Nat) (ps rs : List Nat) (k q0 p r j : Nat) : Prop where
 dg : DgSt w wr b n ps rs k
 h0 : wr.heap[q0]? = some (.cells #[.int .i64 (k : Int)] 3)
 h1 : wr.heap[q0 + 1]? = some (.cells #[.int .u64 (p : Int)] 67)
 h2 : wr.heap[q0 + 2]? = some (.cells #[.int .u64 (gfold p (ps.take j) (digL ps rs j) r : Int)] 67)
theorem InSt.set {w wr : World} {b n : Nat} {ps rs : List Nat} {k q0 p r j : Nat} (h : InSt w wr b n ps rs k q0 p r j) (hq : w.heap.size + 3 ≤ q0) :
  InSt w (wr.setCell ⟨q0 + 2, 0, none⟩ (.int .u64 (gfold p (ps.take (j + 1)) (digL ps rs (j + 1)) r : Int))) b n ps rs k q0 p r (j + 1) :=
 ⟨h.dg.set (by omega) _, set_other h.h0 (by omega), set_other h.h1 (by omega), one_set h.h2⟩
theorem InSt.drewN {w wr : World} {b n : Nat} {ps rs : List Nat} {k q0 p r j : Nat} (h : InSt w wr b n ps rs k q0 p r j) (m : Nat) : InSt w (wr.drewN m) b n ps rs k q0 p r j := ⟨h.dg.drewN m, h.h0, h.h1, h.h2⟩
theorem digits_any (b : Nat) (ps rs : List Nat) (rv : Value) (w : World) (hs : SysAt w b ps) (hsep : Sep ps) (hlen : ps.length ≤ 25) (hr : w.reads w.heap.size rv (rs.map u32V)) (hrow : RowP ps rs) :
  Calls Tryz.prog 74 #[.pointer (some ⟨b, 0, none⟩), rv] w (RowRet w (digL ps rs ps.length)) := by
 obtain ⟨HPOST, hpost⟩ : ∃ R, R = RowRet w (digL ps rs ps.length) := ⟨_, rfl⟩
 rw [← hpost]
 have HP := Lib.hid hpost
 clear hpost
 obtain ⟨lv, iv, h1, h2, h3⟩ := hs
 have hbw := lt_of_heap h1
 obtain ⟨c0, -, -, c3, -⟩ := five_sys h1
 have hl2 := h2.le_map
 have hl1 := hr.le_map
 obtain ⟨pa, pc, rfl, hpc, hpm, hps⟩ := reads_u32 h2
 obtain ⟨ra, rc, rfl, hrc, hrm, hrs⟩ := reads_u32 hr
 obtain ⟨ia, ic, rfl, hic, him, hi3⟩ := h3.shape
 have HS := Lib.hid hps
 have HR := Lib.hid hrs
 have HI := Lib.hid hi3
 have HSEP := Lib.hid hsep
 have HROW := Lib.hid hrow
 have hlr := hrow.1
 have hli : (invRows ps).length = ps.length := by simp [invRows]
 obtain ⟨n, hn⟩ : ∃ n, n = ps.length := ⟨_, rfl⟩
 rw [hli, ← hn] at hic c3
 rw [hlr, ← hn] at hrc hl1 ⊢
 rw [← hn] at hpc hl2 c0 hlen
 have HN := Lib.hid hn
 have HLR := Lib.hid hlr
 have hmk := make_words n (by omega)
 have HC0 := Lib.hid c0
 have HC3 := Lib.hid c3
 clear h1 h2 h3 hr hps hrs hi3 hn hlr hli hsep hrow c3
 have HBW := Lib.hid hbw
 go_enter Tryz.func74, Tryz.ntmps74
 go_upto_region 2 with (fail)
 generalize hwa : ((w.alloc (.cells #[.pointer (some ⟨b, 0, none⟩)] 109)).alloc (.cells (zrow n) 22)).alloc (.cells #[.slice (some ⟨w.heap.size + 1, 0, none⟩) n n] 23) = wa
 have hst : DgSt w wa b n ps rs 0 := by
  refine ⟨?_, ?_, ?_, ?_⟩
  ·rw [← hwa, Below.heap_alloc _ _ _ (by simp; omega), Below.heap_alloc _ _ _ (by simp)]; exact heap_alloc_new w _
  ·rw [← hwa, Below.heap_alloc _ _ _ (by simp), dgrow_zero]; exact alloc_last _ _ (by simp)
  ·rw [← hwa]; exact alloc_last _ _ (by simp)
  ·rw [← hwa]; exact (((Below.refl _ _).alloc (Nat.le_refl _) _).alloc (by simp) _).alloc (by simp; omega) _
 have hsz : w.heap.size + 3 ≤ wa.heap.size := by rw [← hwa]; simp
 clear hwa c0
 have HST := Lib.hid hst
 have HSZ := Lib.hid hsz
 have c0 := (hst.bel.cell (p := ⟨b, 0, none⟩) hbw).trans HC0.out
 obtain ⟨s0, -⟩ := one_cell hst.h0
 clear hst hsz hbw
 go_wp2_with fail
 clear c0 s0
 go_loopw [20] (fun iv wr => ∃ k : Nat, k ≤ n ∧ iv = .int .i64 (k : Int) ∧ Hid (DgSt w wr b n ps rs k)) (fun iv _ => n - (intOf iv).toNat)
 case atStart => exact ⟨0, Nat.zero_le _, rfl, HST.out⟩
 case round =>
  obtain ⟨k, hk, rfl, hS⟩ := hrel
  obtain ⟨wo, rfl⟩ : ∃ x, x = wr := ⟨_, rfl⟩
  by_cases hlt : k < n
  ·have hkp : k < ps.length := by rw [← HN.out]; exact hlt
   have hkr : k < rs.length := by rw [HLR.out]; exact hkp
   obtain ⟨p, hp⟩ : ∃ p, ps[k]? = some p := ⟨ps[k], List.getElem?_eq_getElem hkp⟩
   obtain ⟨r, hr⟩ : ∃ r, rs[k]? = some r := ⟨rs[k], List.getElem?_eq_getElem hkr⟩
   obtain ⟨b2, o2, rfl, hb2l, d2⟩ := HS.out k p hp
   obtain ⟨b1, o1, rfl, hb1l, d1⟩ := HR.out k r hr
   obtain ⟨ib, io, rb2, rc2, rfl, hibl, hic2, hrd⟩ := HI.out k _ (invRows_get hp)
   have e2 := (hS.out.bel.cell (p := ⟨b2, o2 + k, none⟩) hb2l).trans d2
   have e1 := (hS.out.bel.cell (p := ⟨b1, o1 + k, none⟩) hb1l).trans d1
   obtain ⟨p1, p2, p3, p4⟩ := HSEP.out k p hp
   have hp2 : 2 ≤ p := p1.1
   have hrp : r < p := HROW.out.2 k p r hp hr
   have hrow := garner_in HSEP.out HROW.out hp hr
   have hdk := dgt_eq hp hr
   have HRD := Lib.hid hrd
   have HIC2 := Lib.hid hic2
   have HGI := Lib.hid hrow
   have HDK := Lib.hid hdk
   have HP2 := Lib.hid hp
   have w1 : IntKind.u64.wrap (p : Int) = (p : Int) := by rw [IntKind.wrap_u64]; omega
   have w2 : IntKind.u64.wrap (r : Int) = (r : Int) := by rw [IntKind.wrap_u64]; omega
   have w3 : (k : Int) < (n : Int) := by omega
   have hsz := hS.out.size
   have lt1 : b1 < wo.heap.size := by omega
   have lt2 : b1 < wo.heap.size + 1 := by omega
   have lt3 : b1 < wo.heap.size + 1 + 1 := by omega
   have ne1 : ¬ b1 = wo.heap.size := by omega
   have ne2 : ¬ b1 = wo.heap.size + 1 := by omega
   clear d1 d2 hrd hic2 hrow hdk p4 hp hr hkp hkr p1 p2
   go_upto_region 8 with (fail)
   generalize hwb : ((wo.alloc (.cells #[.int .i64 (k : Int)] 3)).alloc (.cells #[.int .u64 (p : Int)] 67)).alloc (.cells #[.int .u64 (r : Int)] 67) = wb
   have hg0 : wb.heap[wo.heap.size]? = some (.cells #[.int .i64 (k : Int)] 3) := by rw [← hwb, Below.heap_alloc _ _ _ (by simp; omega), Below.heap_alloc _ _ _ (by simp)]; exact heap_alloc_new wo _
   have hg1 : wb.heap[wo.heap.size + 1]? = some (.cells #[.int .u64 (p : Int)] 67) := by rw [← hwb, Below.heap_alloc _ _ _ (by simp)]; exact alloc_last _ _ (by simp)
   have hg2 : wb.heap[wo.heap.size + 2]? = some (.cells #[.int .u64 (r : Int)] 67) := by rw [← hwb]; exact alloc_last _ _ (by simp)
   have hwob : Below wo.heap.size wo wb := by rw [← hwb]; exact (((Below.refl _ _).alloc (Nat.le_refl _) _).alloc (by simp) _).alloc (by simp; omega) _
   have hDS := hS.out.below hsz hwob
   obtain ⟨q0, hq0⟩ : ∃ q0, q0 = wo.heap.size := ⟨_, rfl⟩
   rw [← hq0] at hg0 hg1 hg2 ⊢
   have hq3 : w.heap.size + 3 ≤ q0 := by rw [hq0]; exact hsz
   obtain ⟨i0, -⟩ := one_cell hg0
   have HIN : Hid (InSt w wb b n ps rs k q0 p r 0) := ⟨hDS, hg0, hg1, by rw [hg2]; simp [gfold_nil]⟩
   clear hwb hg0 hg1 hg2 hwob hDS hq0 hsz hS e1 e2
   go_wp2_with fail
   clear i0
   go_loopw [34] (fun jv wr => ∃ j : Nat, j ≤ k ∧ jv = .int .i64 (j : Int) ∧ Hid (InSt w wr b n ps rs k q0 p r j)) (fun jv _ => k - (intOf jv).toNat)
   case atStart => exact ⟨0, Nat.zero_le _, rfl, HIN.out⟩
   case round =>
    obtain ⟨j, hj, rfl, hI⟩ := hrel
    by_cases hjk : j < k
    ·obtain ⟨q, hq⟩ : ∃ q, ps[j]? = some q := ⟨ps[j]'(by have := HN.out; omega), List.getElem?_eq_getElem _⟩
     obtain ⟨iw, hiw⟩ : ∃ x, x = invN (q % p) p := ⟨_, rfl⟩
     have hrowj : ((ps.take k).map fun q => invN (q % p) p)[j]? = some iw := by rw [List.getElem?_map, List.getElem?_take, if_pos hjk, hq, hiw]; rfl
     obtain ⟨a3, c3', hsl, h31, h32, h33⟩ := reads_u32 HRD.out
     obtain ⟨b3, o3, rfl, hb3l, d3⟩ := h33 j iw hrowj
     injection hsl with hsl1 hsl2 hsl3
     have hrl : ((ps.take k).map fun q => invN (q % p) p).length = k := by rw [List.length_map, List.length_take]; have := HN.out; omega
     obtain ⟨g1, g2⟩ := HGI.out j (by omega)
     obtain ⟨d, hd⟩ : ∃ d, d = gfold p (ps.take j) (digL ps rs j) r := ⟨_, rfl⟩
     rw [← hd] at g1
     obtain ⟨-, i2, -⟩ := invN_spec hp2 (by omega) (Nat.mod_lt q (by omega)) (HSEP.out.gcd_mod HP2.out hq hjk)
     obtain ⟨i1, -, -⟩ := invN_spec hp2 (by omega) (Nat.mod_lt q (by omega)) (HSEP.out.gcd_mod HP2.out hq hjk)
     rw [← hiw] at i1
     obtain ⟨k0, -⟩ := one_cell hI.out.h0
     obtain ⟨k1, -⟩ := one_cell hI.out.h1
     obtain ⟨k2, k2f⟩ := one_cell hI.out.h2
     rw [← hd] at k2
     obtain ⟨m0, -⟩ := one_cell hI.out.dg.h0
     obtain ⟨m2, -⟩ := one_cell hI.out.dg.h2
     have hdj := dgt_lt HSEP.out HROW.out hq
     obtain ⟨m1, -⟩ := rowF_cell hI.out.dg.h1 j (by omega)
     rw [if_pos hjk] at m1
     have hbl := hI.out.dg.bel
     have n1 := (hbl.cell (p := ⟨b, 3, none⟩) HBW.out).trans HC3.out
     have n2 := (hbl.cell (p := ⟨ib, io + k, none⟩) hibl).trans HIC2.out
     have n3 := (hbl.cell (p := ⟨b3, o3 + j, none⟩) hb3l).trans d3
     rw [hsl1, hrl] at n2
     obtain ⟨hqp, -, hqb, -⟩ := HSEP.out j q hq
     have hstep := step1_any (q0 + 2) (q0 + 1) (w.heap.size + 2) w.heap.size q0 (w.heap.size + 1) n b j k d p (dgt ps rs j) iw 0 (some ⟨ib, io, none⟩) rc2 n ic ib io b3 o3 k wr k2 k2f k1 m2 m0 k0 m1 n1 n2 n3 (by omega) (by omega) hlt hic (by omega) hjk (by omega) (by rw [hrl, ← hsl3] at h31; exact h31) g1 hp2 p3 (by omega) i1 (gst p q (dgt ps rs j) d) (by unfold gst; rw [hiw])
     have HSTEP := Lib.hid hstep
     have hlen2 : (ps.take j).length = (digL ps rs j).length := by rw [digL_len, List.length_take]; have := HN.out; omega
     have HNEXT : Hid (gst p q (dgt ps rs j) d = gfold p (ps.take (j + 1)) (digL ps rs (j + 1)) r) := by
      show _ = _
      rw [take_succ' hq, show digL ps rs (j + 1) = digL ps rs j ++ [dgt ps rs j] by rfl, gfold_snoc _ _ _ _ _ _ hlen2, ← hd]
     have t1 : (j : Int) < (k : Int) := by omega
     clear hstep n1 n2 n3 m0 m1 m2 k0 k1 k2 k2f hbl hdj i2 g2 hd hsl1 hsl2 hsl3 hrl h31 h32 h33 d3 hrowj hiw hq hlen2 hqp hqb
     go_wp2_with fail
     (with_reducible refine (HSTEP.out).mono ?_)
     rintro e w5 ⟨⟨v5, rfl⟩, nq, rfl⟩
     clear HSTEP
     go_wp2_with fail
     go_roundw
     case rel => exact ⟨j + 1, by omega, by go_num, by
      show InSt _ _ _ _ _ _ _ _ _ _ _
      rw [HNEXT.out]
      exact (hI.out.set hq3).drewN nq⟩
     case measure => simp [intOf]; omega
    ·obtain rfl : j = k := by omega
     obtain ⟨k0, -⟩ := one_cell hI.out.h0
     obtain ⟨k2, k2f⟩ := one_cell hI.out.h2
     obtain ⟨m2, -⟩ := one_cell hI.out.dg.h2
     obtain ⟨m1, m1f⟩ := rowF_cell hI.out.dg.h1 j (by omega)
     rw [if_neg (by omega)] at m1
     rw [← HDK.out] at k2
     have hdl := dgt_lt HSEP.out HROW.out HP2.out
     obtain ⟨d, hd⟩ : ∃ d, d = dgt ps rs j := ⟨_, rfl⟩
     rw [← hd] at k2 hdl
     have HD := Lib.hid hd
     have hdm : (d : Int) % 4294967296 = (d : Int) := by omega
     have t2 : ¬ (j : Int) < (j : Int) := by omega
     clear hd
     go_wp2_with fail
     go_roundw
     case rel =>
      refine ⟨j + 1, by omega, by go_num, ?_⟩
      have := hI.out.dg.push
      rw [← HD.out] at this
      exact this
     case measure => simp [intOf]; omega
  ·obtain rfl : k = n := by omega
   obtain ⟨m2, -⟩ := one_cell hS.out.h2
   have hg2 := hS.out.h1
   unfold dgrow at hg2
   rw [rowF_congr (f' := dgt ps rs) (fun j hj => if_pos hj)] at hg2
   have HO := Lib.hid (rowF_owns (base := w.heap.size) hg2 (by omega) (by omega))
   have t2 : ¬ (k : Int) < (k : Int) := by omega
   clear hg2
   go_wp2
   rw [HP.out]
   refine ⟨_, rfl, ?_, hS.out.bel⟩
   rw [digL_len, ← HN.out, digL_map]
   exact HO.out
end
/- Walks: the integer of a row. -/
section
open Go.RowKit Go.Shelf Go.WideNum PN
theorem zN_nat (n : Nat) : zN ((n : Nat) : Int) = false := decide_eq_false (by omega)
structure JSt (w wr : World) (xb : Bool) (xt : ByteArray) (lv : Value) (n : Nat) (ds : List Nat) : Prop where
 h0 : wr.heap[w.heap.size]? = some (.cells #[.bool false, .string ⟨#[]⟩] 40)
 h1 : wr.heap[w.heap.size + 1]? = some (.cells #[.bool xb, .string xt] 40)
 ol : wr.owns (w.heap.size + 2) 22 1 lv n (ds.map u32V)
 bel : Below w.heap.size w wr
theorem JSt.size {w wr : World} {xb : Bool} {xt : ByteArray} {lv : Value} {n : Nat} {ds : List Nat} (h : JSt w wr xb xt lv n ds) : w.heap.size + 2 ≤ wr.heap.size := by
 have := lt_of_heap h.h1; omega
theorem JSt.below {w wr w' : World} {xb : Bool} {xt : ByteArray} {lv : Value} {n : Nat} {ds : List Nat} (h : JSt w wr xb xt lv n ds) (hb : Below wr.heap.size wr w') : JSt w w' xb xt lv n ds := by
 have hs := h.size
 exact ⟨(hb.block _ (by omega)).trans h.h0, (hb.block _ (by omega)).trans h.h1, h.ol.below hb, h.bel.trans (hb.mono h.bel.size)⟩
theorem JSt.set {w wr : World} {xb : Bool} {xt : ByteArray} {lv : Value} {n : Nat} {ds : List Nat} (h : JSt w wr xb xt lv n ds) (yb : Bool) (yt : ByteArray) : JSt w ((wr.setCell ⟨w.heap.size + 1, 0, none⟩ (.bool yb)).setCell ⟨w.heap.size + 1, 1, none⟩ (.string yt)) yb yt lv n ds := by
 refine ⟨?_, wide_set h.h1 _ _, ?_, ?_⟩
 ·exact (wide_other (W := wr) (p := w.heap.size) (q := w.heap.size + 1) (by omega) _ _).trans h.h0
 ·exact (h.ol.setCell (by simp) _).setCell (by simp) _
 ·exact (h.bel.setCell (by simp) _).setCell (by simp) _
theorem join_any (b : Nat) (ps rs : List Nat) (rv : Value) (x : Nat) (w : World) (hs : SysAt w b ps) (hsys : SysP ps) (hr : w.reads w.heap.size rv (rs.map u32V)) (hrow : RowP ps rs) (hx : IsCrt ps rs x) (fb : Bool) (ft : ByteArray) (hfb : fb = zN (balZ x (prodL ps : Nat))) (hft : ft = zT (balZ x (prodL ps : Nat))) :
  Calls Tryz.prog 48 #[.pointer (some ⟨b, 0, none⟩), rv] w fun e w' => e = .returned (.agg #[.bool fb, .string ft]) ∧ Below w.heap.size w w' := by
 obtain ⟨HPOST, hpost⟩ : ∃ R : Ending → World → Prop, R = fun e w' => e = .returned (.agg #[.bool fb, .string ft]) ∧ Below w.heap.size w w' := ⟨_, rfl⟩
 rw [← hpost]
 have HP := Lib.hid hpost
 clear hpost
 have hsep := hsys.sep
 have hlen := hsys.2.1
 have hn1 := hsys.1
 have hdig := fun (W : World) (h1 : SysAt W b ps) (h2 : W.reads W.heap.size rv (rs.map u32V)) => digits_any b ps rs rv W h1 hsep hlen h2 hrow
 have hval : mvL ps (digL ps rs ps.length) = x := (garner_all hsep hrow).uniq hsep hrow.1 hx
 have hdl : ∀ i p : Nat, ps[i]? = some p → dgt ps rs i < p := fun i p hp => dgt_lt hsep hrow hp
 obtain ⟨ds, hds⟩ : ∃ ds, ds = digL ps rs ps.length := ⟨_, rfl⟩
 rw [← hds] at hdig hval
 have hdsl : ds.length = ps.length := by rw [hds, digL_len]
 have hdget : ∀ i, i < ps.length → ds[i]? = some (dgt ps rs i) := fun i hi => by rw [hds]; exact digL_get ps rs hi
 have hQ : prodL ps ≤ 4294967296 ^ 25 := Nat.le_trans (prodL_lt (fun p hp => by have := (hsep.mem hp).2.2; omega)) (Nat.pow_le_pow_right (by omega) hlen)
 have hbound : ∀ k, mvL (ps.drop k) (ds.drop k) < prodL (ps.drop k) := fun k => by
  refine mvL_lt _ _ (fun p hp => (hsep.mem (List.mem_of_mem_drop hp)).1.pos) (fun i p d hp hd => ?_)
  rw [List.getElem?_drop] at hp hd
  have hi : k + i < ps.length := (List.getElem?_eq_some_iff.1 hp).1
  rw [hdget _ hi] at hd
  injection hd with hd
  rw [← hd]; exact hdl _ _ hp
 have hbound2 : ∀ k, k ≤ ps.length → mvL (ps.drop k) (ds.drop k) < 4294967296 ^ (ps.length - k) := fun k hk => by
  have h1 := prodL_lt (l := ps.drop k) (fun p hp => by have := (hsep.mem (List.mem_of_mem_drop hp)).2.2; omega)
  rw [List.length_drop] at h1
  exact Nat.lt_of_lt_of_le (hbound k) h1
 have HDIG := Lib.hid hdig
 have HVAL := Lib.hid hval
 have HDL := Lib.hid hdl
 have HDS := Lib.hid hdsl
 have HDG := Lib.hid hdget
 have HQ := Lib.hid hQ
 have HBD := Lib.hid hbound2
 have HSEP := Lib.hid hsep
 have HSYS := Lib.hid hs
 have HR := Lib.hid hr
 have HFB := Lib.hid hfb
 have HFT := Lib.hid hft
 have HX := Lib.hid hx
 obtain ⟨lv, iv, h1, h2, -⟩ := hs
 have hbw := lt_of_heap h1
 obtain ⟨c0, c1, c2, -⟩ := five_sys h1
 have hl2 := h2.le_map
 obtain ⟨pa, pc, rfl, hpc, hpm, hps⟩ := reads_u32 h2
 have HS := Lib.hid hps
 obtain ⟨n, hn⟩ : ∃ n, n = ps.length := ⟨_, rfl⟩
 rw [← hn] at hpc hl2 c0 hlen hn1
 have HN := Lib.hid hn
 obtain ⟨qb, hqb⟩ : ∃ z, z = zN ((prodL ps : Nat) : Int) := ⟨_, rfl⟩
 obtain ⟨qt, hqt⟩ : ∃ z, z = zT ((prodL ps : Nat) : Int) := ⟨_, rfl⟩
 rw [← hqb] at c1
 rw [← hqt] at c2
 have HQB := Lib.hid hqb
 have HQT := Lib.hid hqt
 have HC0 := Lib.hid c0
 have HC1 := Lib.hid c1
 have HC2 := Lib.hid c2
 clear h1 h2 hps hn hsep hdig hval hdl hds hdsl hdget hQ hbound hbound2 hr hfb hft hx hqb hqt hsys c0 c1 c2 hrow
 go_enter Tryz.func48, Tryz.ntmps48
 go_upto_region 2 with (fail)
 generalize hwa : (w.alloc (.cells #[.bool false, .string ⟨#[]⟩] 40)).alloc (.cells #[.bool false, .string ⟨#[]⟩] 40) = wa
 have ha0 : wa.heap[w.heap.size]? = some (.cells #[.bool false, .string ⟨#[]⟩] 40) := by rw [← hwa, Below.heap_alloc _ _ _ (by simp)]; exact heap_alloc_new w _
 have ha1 : wa.heap[w.heap.size + 1]? = some (.cells #[.bool false, .string ⟨#[]⟩] 40) := by rw [← hwa]; exact alloc_last _ _ (by simp)
 have hab : Below w.heap.size w wa := by rw [← hwa]; exact ((Below.refl _ _).alloc (Nat.le_refl _) _).alloc (by simp) _
 have hasz : wa.heap.size = w.heap.size + 2 := by rw [← hwa]; simp
 clear hwa
 have HSA := Lib.hid (HSYS.out.below hab)
 have HRA := Lib.hid ((HR.out.below hab).mono hab.size)
 have HA0 := Lib.hid ha0
 have HA1 := Lib.hid ha1
 have HAB := Lib.hid hab
 have HASZ := Lib.hid hasz
 clear ha0 ha1 hab hasz
 go_wp2_with fail
 (with_reducible refine (HDIG.out _ HSA.out HRA.out).mono ?_)
 rintro e w1 ⟨v, rfl, ho, hb1⟩
 rw [HDS.out, ← HN.out, HASZ.out] at ho
 have HJ : Hid (JSt w w1 false ⟨#[]⟩ v n ds) := ⟨(hb1.block _ (lt_of_heap HA0.out)).trans HA0.out, (hb1.block _ (lt_of_heap HA1.out)).trans HA1.out, ho, HAB.out.trans (hb1.mono HAB.out.size)⟩
 obtain ⟨la, lc, rfl, hlc, hlm, -⟩ := ho.at_
 clear ho hb1 HSA HRA HA0 HA1 HAB HASZ
 go_wp2_with fail
 go_loopw [7] (fun iv wr => ∃ k : Nat, k ≤ n ∧ iv = .int .i64 ((k : Int) - 1) ∧ Hid (JSt w wr (zN ((mvL (ps.drop k) (ds.drop k) : Nat) : Int)) (zT ((mvL (ps.drop k) (ds.drop k) : Nat) : Int)) (.slice la n lc) n ds)) (fun iv _ => (intOf iv + 1).toNat)
 case atStart => exact ⟨n, Nat.le_refl _, rfl, by
  show JSt _ _ _ _ _ _ _
  rw [HN.out, List.drop_eq_nil_of_le (Nat.le_refl _)]
  have := HJ.out
  rw [← HN.out]
  exact this⟩
 case round =>
  obtain ⟨kk, hkk, rfl, hJ⟩ := hrel
  obtain ⟨wo, rfl⟩ : ∃ x, x = wr := ⟨_, rfl⟩
  cases kk with
  | zero =>
   have hmv : mvL (ps.drop 0) (ds.drop 0) = x := by rw [List.drop_zero, List.drop_zero]; exact HVAL.out
   rw [hmv] at hJ
   have hxl : x < 4294967296 ^ 25 := Nat.lt_of_lt_of_le HX.out.1 HQ.out
   have rX : InR (x : Int) := inR_of (k := 25) (by rw [Int.natAbs_natCast]; exact hxl) (by omega)
   have hq0 : 0 < prodL ps := Nat.lt_of_le_of_lt (Nat.zero_le _) HX.out.1
   have rQ : InR ((prodL ps : Nat) : Int) := by
    unfold InR; rw [Int.natAbs_natCast, lim_words]
    exact Nat.lt_of_le_of_lt HQ.out (Nat.pow_lt_pow_right (by omega) (by omega))
   have hbal := fun W => Balanced_z (x : Int) ((prodL ps : Nat) : Int) rX rQ (by omega) W
   unfold WideOk at hbal
   obtain ⟨xb, hxb⟩ : ∃ z, z = zN (x : Int) := ⟨_, rfl⟩
   obtain ⟨xt, hxt⟩ : ∃ z, z = zT (x : Int) := ⟨_, rfl⟩
   rw [← hxb, ← hxt] at hbal hJ
   rw [← HQB.out, ← HQT.out, ← HFB.out, ← HFT.out] at hbal
   have HBAL := Lib.hid hbal
   have hJs := hJ.out.size
   have c1 := (hJ.out.bel.cell (p := ⟨b, 1, none⟩) hbw).trans HC1.out
   have c2 := (hJ.out.bel.cell (p := ⟨b, 2, none⟩) hbw).trans HC2.out
   obtain ⟨x0, x1, -⟩ := wide_cells hJ.out.h1
   have HKEEP : Hid (∀ w', Below wo.heap.size wo w' → w'.cell? ⟨w.heap.size + 1, 0, none⟩ = some (.bool xb) ∧ w'.cell? ⟨w.heap.size + 1, 1, none⟩ = some (.string xt) ∧ w'.cell? ⟨b, 1, none⟩ = some (.bool qb) ∧ w'.cell? ⟨b, 2, none⟩ = some (.string qt)) := fun w' hb =>
    ⟨(hb.cell (p := ⟨w.heap.size + 1, 0, none⟩) (by show w.heap.size + 1 < _; omega)).trans x0, (hb.cell (p := ⟨w.heap.size + 1, 1, none⟩) (by show w.heap.size + 1 < _; omega)).trans x1, (hb.cell (p := ⟨b, 1, none⟩) (by show b < _; omega)).trans c1, (hb.cell (p := ⟨b, 2, none⟩) (by show b < _; omega)).trans c2⟩
   have t0 : ¬ (0 : Int) ≤ ((0 : Nat) : Int) - 1 := by omega
   clear hbal hxb hxt rX rQ hxl hq0 hmv
   go_wp2_with fail
   refine wp_region_late (fun w' => w'.cell? ⟨w.heap.size + 1, 0, none⟩ = some (.bool xb) ∧ w'.cell? ⟨w.heap.size + 1, 1, none⟩ = some (.string xt) ∧ w'.cell? ⟨b, 1, none⟩ = some (.bool qb) ∧ w'.cell? ⟨b, 2, none⟩ = some (.string qt)) (fun j => decide (j = 9)) (by kernel_rfl) ⟨x0, x1, c1, c2⟩ (fun hHeld => ?_)
   refine tkD 0 (v := ?_) rfl ?_ ?_
   rotate_left
   ·(intro wq hSq; (try dsimp only at hSq); go_simp; try with_reducible rfl)
   try simp only [Act.put, List.setIfInBounds_toArray, List.set_cons_zero, List.set_cons_succ]
   refine tkD 1 (v := ?_) rfl ?_ ?_
   rotate_left
   ·(intro wq hSq; (try dsimp only at hSq); go_simp; try with_reducible rfl)
   try simp only [Act.put, List.setIfInBounds_toArray, List.set_cons_zero, List.set_cons_succ]
   refine tkD 2 (v := ?_) rfl ?_ ?_
   rotate_left
   ·(intro wq hSq; (try dsimp only at hSq); go_simp; try with_reducible rfl)
   try simp only [Act.put, List.setIfInBounds_toArray, List.set_cons_zero, List.set_cons_succ]
   refine tkD 3 (v := ?_) rfl ?_ ?_
   rotate_left
   ·(intro wq hSq; (try dsimp only at hSq); go_simp; try with_reducible rfl)
   try simp only [Act.put, List.setIfInBounds_toArray, List.set_cons_zero, List.set_cons_succ]
   refine tkD 4 (v := ?_) rfl ?_ ?_
   rotate_left
   ·(intro wq hSq; (try dsimp only at hSq); go_simp; try with_reducible rfl)
   try simp only [Act.put, List.setIfInBounds_toArray, List.set_cons_zero, List.set_cons_succ]
   refine wpAnyD_keep 5 (by kernel_rfl) rfl (fun K hK => ?_)
   go_simp
   go_at_call 76
   (with_reducible refine (HBAL.out _).mono ?_)
   rintro e w5 ⟨rfl, hb5⟩
   have hb5' : Below wo.heap.size wo w5 := ((Below.refl wo.heap.size wo).drew).trans hb5
   refine hK.out _ _ (HKEEP.out w5 hb5') (fun hHeld3 => ?_)
   have HJ5 := Lib.hid (hJ.out.below hb5')
   clear hK K hHeld hb5 hb5' x0 x1 c1 c2
   try simp only [Act.put, List.setIfInBounds_toArray, List.set_cons_zero, List.set_cons_succ]
   refine tkW 6 (v := ?_) rfl ?_ ?_
   rotate_left
   ·(intro wq hSq; (try dsimp only at hSq); go_simp; try with_reducible rfl)
   try simp only [Act.put, List.setIfInBounds_toArray, List.set_cons_zero, List.set_cons_succ]
   refine tkW 7 (v := ?_) rfl ?_ ?_
   rotate_left
   ·(intro wq hSq; (try dsimp only at hSq); go_simp; try with_reducible rfl)
   try simp only [Act.put, List.setIfInBounds_toArray, List.set_cons_zero, List.set_cons_succ]
   refine tkW 8 (v := ?_) rfl ?_ ?_
   rotate_left
   ·(intro wq hSq; (try dsimp only at hSq); go_simp; try with_reducible rfl)
   try simp only [Act.put, List.setIfInBounds_toArray, List.set_cons_zero, List.set_cons_succ]
   refine wpAnyD_step 9 (by kernel_rfl) rfl rfl (fun K hK => ?_)
   obtain ⟨x0, x1, xf⟩ := wide_cells HJ5.out.h1
   go_simp
   refine hK.out _ _ ?_
   clear hK K hHeld3 x0 x1 xf
   refine wpAnyD_end (by kernel_rfl) ?_
   have hJ7 := HJ5.out.set fb ft
   generalize (w5.setCell ⟨w.heap.size + 1, 0, none⟩ (.bool fb)).setCell ⟨w.heap.size + 1, 1, none⟩ (.string ft) = w7 at hJ7 ⊢
   obtain ⟨x0, x1, -⟩ := wide_cells hJ7.h1
   obtain ⟨r0, r1, rf⟩ := wide_cells hJ7.h0
   have m2 := wide_set hJ7.h0 fb ft
   have hb9 := below_set2 (p := w.heap.size) hJ7.bel (Nat.le_refl _) fb ft
   clear hJ7
   go_wp2
   obtain ⟨d20, d21, -⟩ := wide_cells m2
   clear m2
   generalize (w7.setCell ⟨w.heap.size, 0, none⟩ (.bool fb)).setCell ⟨w.heap.size, 1, none⟩ (.string ft) = W9 at d20 d21 hb9 ⊢
   rw [HP.out]
   exact bodyPost_ret (v := .agg #[.bool fb, .string ft]) (by simp [results, Tryz.results48, go_sem, d20, d21]) rfl ⟨rfl, hb9⟩
  | succ j =>
   rw [show ((j + 1 : Nat) : Int) - 1 = (j : Int) by omega]
   have hjp : j < ps.length := by rw [← HN.out]; omega
   obtain ⟨p, hp⟩ : ∃ p, ps[j]? = some p := ⟨ps[j], List.getElem?_eq_getElem hjp⟩
   have hdj := HDG.out j hjp
   obtain ⟨d, hd⟩ : ∃ d, d = dgt ps rs j := ⟨_, rfl⟩
   rw [← hd] at hdj
   obtain ⟨b2, o2, rfl, hb2l, d2⟩ := HS.out j p hp
   obtain ⟨lb, rfl, hlb1, hlb2, hlc2⟩ := (show ∃ lb, la = some ⟨lb, 0, none⟩ ∧ w.heap.size + 2 ≤ lb ∧ lb < wo.heap.size ∧ wo.cell? ⟨lb, j, none⟩ = some (.int .u32 (d : Int)) from by
    obtain ⟨a', c', hv, -, -, hc⟩ := hJ.out.ol.at_
    injection hv with hv1 hv2 hv3
    obtain ⟨g, q1, q2, q3, q4⟩ := hc j (.int .u32 (d : Int)) (by rw [List.getElem?_map, hdj]; rfl)
    exact ⟨g, hv1.trans q1, q2, q3, q4⟩)
   obtain ⟨p1, p2, p3, p4⟩ := HSEP.out j p hp
   have hpd : d < p := by rw [hd]; exact HDL.out j p hp
   have hdrop := mvL_drop hp hdj
   have hbj := HBD.out j (by omega)
   obtain ⟨X, hX⟩ : ∃ X, X = mvL (ps.drop (j + 1)) (ds.drop (j + 1)) := ⟨_, rfl⟩
   obtain ⟨Z, hZ⟩ : ∃ Z, Z = mvL (ps.drop j) (ds.drop j) := ⟨_, rfl⟩
   rw [← hX] at hdrop hJ
   rw [← hZ] at hdrop hbj
   obtain ⟨Y, hY⟩ : ∃ Y, Y = X * p := ⟨_, rfl⟩
   rw [Nat.mul_comm p, ← hY] at hdrop
   have hXY : X ≤ Y := by rw [hY]; exact Nat.le_mul_of_pos_right X p1.pos
   have hk25 : ps.length - j ≤ 64 := by rw [← HN.out]; omega
   have rX : InR (X : Int) := inR_of (k := ps.length - j) (by rw [Int.natAbs_natCast]; omega) hk25
   have rY : InR (Y : Int) := inR_of (k := ps.length - j) (by rw [Int.natAbs_natCast]; omega) hk25
   have rZ : InR (Z : Int) := inR_of (k := ps.length - j) (by rw [Int.natAbs_natCast]; omega) hk25
   have rp : InR (p : Int) := inR_small (by omega)
   have rd : InR (d : Int) := inR_small (by omega)
   have eY : (X : Int) * (p : Int) = (Y : Int) := by rw [hY]; simp
   have eZ : (Y : Int) + (d : Int) = (Z : Int) := by omega
   have hmul := fun W => Mul_z (X : Int) (p : Int) rX rp (by rw [eY]; exact rY) W
   have hadd := fun W => Add_z (Y : Int) (d : Int) rY rd (by rw [eZ]; exact rZ) W
   have hofp := fun W => Of_z (p : Int) (by omega) (by omega) W
   have hofd := fun W => Of_z (d : Int) (by omega) (by omega) W
   unfold WideOk at hmul hadd
   rw [eY] at hmul
   rw [eZ] at hadd
   have HZ : Hid (Z = mvL (ps.drop j) (ds.drop j)) := hZ
   obtain ⟨xb, hxb⟩ : ∃ z, z = zN (X : Int) := ⟨_, rfl⟩
   obtain ⟨xt, hxt⟩ : ∃ z, z = zT (X : Int) := ⟨_, rfl⟩
   obtain ⟨yb, hyb⟩ : ∃ z, z = zN (Y : Int) := ⟨_, rfl⟩
   obtain ⟨yt, hyt⟩ : ∃ z, z = zT (Y : Int) := ⟨_, rfl⟩
   obtain ⟨zb, hzb⟩ : ∃ z, z = zN (Z : Int) := ⟨_, rfl⟩
   obtain ⟨zt, hzt⟩ : ∃ z, z = zT (Z : Int) := ⟨_, rfl⟩
   obtain ⟨pb, hpb⟩ : ∃ z, z = zN (p : Int) := ⟨_, rfl⟩
   obtain ⟨pt, hpt⟩ : ∃ z, z = zT (p : Int) := ⟨_, rfl⟩
   obtain ⟨db, hdb⟩ : ∃ z, z = zN (d : Int) := ⟨_, rfl⟩
   obtain ⟨dt, hdt⟩ : ∃ z, z = zT (d : Int) := ⟨_, rfl⟩
   rw [← hxb, ← hxt] at hmul hJ
   rw [← hpb, ← hpt] at hmul hofp
   rw [← hyb, ← hyt] at hmul hadd
   rw [← hdb, ← hdt] at hadd hofd
   rw [← hzb, ← hzt] at hadd
   have HMUL := Lib.hid hmul
   have HADD := Lib.hid hadd
   have HOFP := Lib.hid hofp
   have HOFD := Lib.hid hofd
   have HZB := Lib.hid hzb
   have HZT := Lib.hid hzt
   have hJs := hJ.out.size
   have c0 := (hJ.out.bel.cell (p := ⟨b, 0, none⟩) hbw).trans HC0.out
   have e1 := (hJ.out.bel.cell (p := ⟨b2, o2 + j, none⟩) hb2l).trans d2
   obtain ⟨x0, x1, -⟩ := wide_cells hJ.out.h1
   have HKEEP : Hid (∀ w', Below wo.heap.size wo w' → w'.cell? ⟨w.heap.size + 1, 0, none⟩ = some (.bool xb) ∧ w'.cell? ⟨w.heap.size + 1, 1, none⟩ = some (.string xt) ∧ w'.cell? ⟨b, 0, none⟩ = some (.slice (some ⟨b2, o2, none⟩) n pc) ∧ w'.cell? ⟨b2, o2 + j, none⟩ = some (.int .u32 (p : Int))) := fun w' hb =>
    ⟨(hb.cell (p := ⟨w.heap.size + 1, 0, none⟩) (by show w.heap.size + 1 < _; omega)).trans x0, (hb.cell (p := ⟨w.heap.size + 1, 1, none⟩) (by show w.heap.size + 1 < _; omega)).trans x1, (hb.cell (p := ⟨b, 0, none⟩) (by show b < _; omega)).trans c0, (hb.cell (p := ⟨b2, o2 + j, none⟩) (by show b2 < _; omega)).trans e1⟩
   have HLC := Lib.hid hlc2
   have t1 : (0 : Int) ≤ (j : Int) := by omega
   have t2 : (j : Int) < (n : Int) := by omega
   have w64p : IntKind.i64.wrap (p : Int) = (p : Int) := by rw [IntKind.wrap_i64]; omega
   have w64d : IntKind.i64.wrap (d : Int) = (d : Int) := by rw [IntKind.wrap_i64]; omega
   clear hmul hadd hofp hofd hzb hzt hxb hxt hyb hyt hpb hpt hdb hdt hX hZ hY hXY hbj hdrop hp hd hdj d2 p1 p2 p4 rX rY rZ rp rd eY eZ hk25 hjp hlc2 hpd
   go_wp2_with fail
   refine wp_region_late (fun w' => w'.cell? ⟨w.heap.size + 1, 0, none⟩ = some (.bool xb) ∧ w'.cell? ⟨w.heap.size + 1, 1, none⟩ = some (.string xt) ∧ w'.cell? ⟨b, 0, none⟩ = some (.slice (some ⟨b2, o2, none⟩) n pc) ∧ w'.cell? ⟨b2, o2 + j, none⟩ = some (.int .u32 (p : Int))) (fun j => decide (j = 14)) (by kernel_rfl) ⟨x0, x1, c0, e1⟩ (fun hHeld => ?_)
   refine tkD 0 (v := ?_) rfl ?_ ?_
   rotate_left
   ·(intro wq hSq; (try dsimp only at hSq); go_simp; try with_reducible rfl)
   try simp only [Act.put, List.setIfInBounds_toArray, List.set_cons_zero, List.set_cons_succ]
   refine tkD 1 (v := ?_) rfl ?_ ?_
   rotate_left
   ·(intro wq hSq; (try dsimp only at hSq); go_simp; try with_reducible rfl)
   try simp only [Act.put, List.setIfInBounds_toArray, List.set_cons_zero, List.set_cons_succ]
   refine tkD 2 (v := ?_) rfl ?_ ?_
   rotate_left
   ·(intro wq hSq; (try dsimp only at hSq); go_simp; try with_reducible rfl)
   try simp only [Act.put, List.setIfInBounds_toArray, List.set_cons_zero, List.set_cons_succ]
   refine tkD 3 (v := ?_) rfl ?_ ?_
   rotate_left
   ·(intro wq hSq; (try dsimp only at hSq); go_simp; try with_reducible rfl)
   try simp only [Act.put, List.setIfInBounds_toArray, List.set_cons_zero, List.set_cons_succ]
   refine tkD 4 (v := ?_) rfl ?_ ?_
   rotate_left
   ·(intro wq hSq; (try dsimp only at hSq); go_simp; try with_reducible rfl)
   try simp only [Act.put, List.setIfInBounds_toArray, List.set_cons_zero, List.set_cons_succ]
   refine tkD 5 (v := ?_) rfl ?_ ?_
   rotate_left
   ·(intro wq hSq; (try dsimp only at hSq); go_simp; try with_reducible rfl)
   try simp only [Act.put, List.setIfInBounds_toArray, List.set_cons_zero, List.set_cons_succ]
   refine tkD 6 (v := ?_) rfl ?_ ?_
   rotate_left
   ·(intro wq hSq; (try dsimp only at hSq); go_simp; try with_reducible rfl)
   try simp only [Act.put, List.setIfInBounds_toArray, List.set_cons_zero, List.set_cons_succ]
   refine tkD 7 (v := ?_) rfl ?_ ?_
   rotate_left
   ·(intro wq hSq; (try dsimp only at hSq); go_simp; try with_reducible rfl)
   try simp only [Act.put, List.setIfInBounds_toArray, List.set_cons_zero, List.set_cons_succ]
   refine tkD 8 (v := ?_) rfl ?_ ?_
   rotate_left
   ·(intro wq hSq; (try dsimp only at hSq); go_simp; try with_reducible rfl)
   try simp only [Act.put, List.setIfInBounds_toArray, List.set_cons_zero, List.set_cons_succ]
   refine wpAnyD_keep 9 (by kernel_rfl) rfl (fun K hK => ?_)
   go_simp
   go_at_call 42
   (with_reducible refine (HOFP.out _).mono ?_)
   rintro e w5 ⟨rfl, hb5⟩
   have hb5' : Below wo.heap.size wo w5 := ((Below.refl wo.heap.size wo).drew).trans hb5
   refine hK.out _ _ (HKEEP.out w5 hb5') (fun hHeld3 => ?_)
   have HB5 := Lib.hid hb5'
   clear hK K hHeld hb5 hb5' x0 x1 c0 e1
   try simp only [Act.put, List.setIfInBounds_toArray, List.set_cons_zero, List.set_cons_succ]
   refine wpAnyD_keep 10 (by kernel_rfl) rfl (fun K hK => ?_)
   go_simp
   go_at_call 45
   (with_reducible refine (HMUL.out _).mono ?_)
   rintro e w6 ⟨rfl, hb6⟩
   have hb6' : Below wo.heap.size wo w6 := below_via HB5.out hb6
   refine hK.out _ _ (HKEEP.out w6 hb6') (fun hHeld4 => ?_)
   have HJ6 := Lib.hid (hJ.out.below hb6')
   have HB6 := Lib.hid hb6'
   clear hK K hHeld3 hb6 hb6' HB5
   try simp only [Act.put, List.setIfInBounds_toArray, List.set_cons_zero, List.set_cons_succ]
   refine tkW 11 (v := ?_) rfl ?_ ?_
   rotate_left
   ·(intro wq hSq; (try dsimp only at hSq); go_simp; try with_reducible rfl)
   try simp only [Act.put, List.setIfInBounds_toArray, List.set_cons_zero, List.set_cons_succ]
   refine tkW 12 (v := ?_) rfl ?_ ?_
   rotate_left
   ·(intro wq hSq; (try dsimp only at hSq); go_simp; try with_reducible rfl)
   try simp only [Act.put, List.setIfInBounds_toArray, List.set_cons_zero, List.set_cons_succ]
   refine tkW 13 (v := ?_) rfl ?_ ?_
   rotate_left
   ·(intro wq hSq; (try dsimp only at hSq); go_simp; try with_reducible rfl)
   try simp only [Act.put, List.setIfInBounds_toArray, List.set_cons_zero, List.set_cons_succ]
   refine wpAnyD_step 14 (by kernel_rfl) rfl rfl (fun K hK => ?_)
   obtain ⟨x0, x1, xf⟩ := wide_cells HJ6.out.h1
   go_simp
   refine hK.out _ _ ?_
   clear hK K hHeld4 x0 x1 xf
   refine wpAnyD_end (by kernel_rfl) ?_
   have hJ7 := HJ6.out.set yb yt
   have hl7 : ((w6.setCell ⟨w.heap.size + 1, 0, none⟩ (.bool yb)).setCell ⟨w.heap.size + 1, 1, none⟩ (.string yt)).cell? ⟨lb, j, none⟩ = some (.int .u32 (d : Int)) :=
    (World.cell?_of_block (a := ⟨lb, j, none⟩) (wide_other (p := lb) (q := w.heap.size + 1) (by omega) yb yt)).trans ((HB6.out.cell (p := ⟨lb, j, none⟩) hlb2).trans HLC.out)
   have hs7 : lb < ((w6.setCell ⟨w.heap.size + 1, 0, none⟩ (.bool yb)).setCell ⟨w.heap.size + 1, 1, none⟩ (.string yt)).heap.size := by simp; exact Nat.lt_of_lt_of_le hlb2 HB6.out.size
   generalize (w6.setCell ⟨w.heap.size + 1, 0, none⟩ (.bool yb)).setCell ⟨w.heap.size + 1, 1, none⟩ (.string yt) = w7 at hJ7 hl7 hs7 ⊢
   have hJs7 := hJ7.size
   obtain ⟨x0, x1, -⟩ := wide_cells hJ7.h1
   have HJ7 := Lib.hid hJ7
   have HKEEP7 : Hid (∀ w', Below w7.heap.size w7 w' → w'.cell? ⟨w.heap.size + 1, 0, none⟩ = some (.bool yb) ∧ w'.cell? ⟨w.heap.size + 1, 1, none⟩ = some (.string yt) ∧ w'.cell? ⟨lb, j, none⟩ = some (.int .u32 (d : Int))) := fun w' hb =>
    ⟨(hb.cell (p := ⟨w.heap.size + 1, 0, none⟩) (by show w.heap.size + 1 < _; omega)).trans x0, (hb.cell (p := ⟨w.heap.size + 1, 1, none⟩) (by show w.heap.size + 1 < _; omega)).trans x1, (hb.cell (p := ⟨lb, j, none⟩) (by show lb < _; omega)).trans hl7⟩
   clear hJ7 hJ HJ6 HB6 HKEEP hlb2 HLC
   go_wp2_with fail
   refine wp_region_late (fun w' => w'.cell? ⟨w.heap.size + 1, 0, none⟩ = some (.bool yb) ∧ w'.cell? ⟨w.heap.size + 1, 1, none⟩ = some (.string yt) ∧ w'.cell? ⟨lb, j, none⟩ = some (.int .u32 (d : Int))) (fun j => decide (j = 11)) (by kernel_rfl) ⟨x0, x1, hl7⟩ (fun hHeld => ?_)
   refine tkD 0 (v := ?_) rfl ?_ ?_
   rotate_left
   ·(intro wq hSq; (try dsimp only at hSq); go_simp; try with_reducible rfl)
   try simp only [Act.put, List.setIfInBounds_toArray, List.set_cons_zero, List.set_cons_succ]
   refine tkD 1 (v := ?_) rfl ?_ ?_
   rotate_left
   ·(intro wq hSq; (try dsimp only at hSq); go_simp; try with_reducible rfl)
   try simp only [Act.put, List.setIfInBounds_toArray, List.set_cons_zero, List.set_cons_succ]
   refine tkD 2 (v := ?_) rfl ?_ ?_
   rotate_left
   ·(intro wq hSq; (try dsimp only at hSq); go_simp; try with_reducible rfl)
   try simp only [Act.put, List.setIfInBounds_toArray, List.set_cons_zero, List.set_cons_succ]
   refine tkD 3 (v := ?_) rfl ?_ ?_
   rotate_left
   ·(intro wq hSq; (try dsimp only at hSq); go_simp; try with_reducible rfl)
   try simp only [Act.put, List.setIfInBounds_toArray, List.set_cons_zero, List.set_cons_succ]
   refine tkD 4 (v := ?_) rfl ?_ ?_
   rotate_left
   ·(intro wq hSq; (try dsimp only at hSq); go_simp; try with_reducible rfl)
   try simp only [Act.put, List.setIfInBounds_toArray, List.set_cons_zero, List.set_cons_succ]
   refine tkD 5 (v := ?_) rfl ?_ ?_
   rotate_left
   ·(intro wq hSq; (try dsimp only at hSq); go_simp; try with_reducible rfl)
   try simp only [Act.put, List.setIfInBounds_toArray, List.set_cons_zero, List.set_cons_succ]
   refine wpAnyD_keep 6 (by kernel_rfl) rfl (fun K hK => ?_)
   go_simp
   go_at_call 42
   (with_reducible refine (HOFD.out _).mono ?_)
   rintro e w8 ⟨rfl, hb8⟩
   have hb8' : Below w7.heap.size w7 w8 := ((Below.refl w7.heap.size w7).drew).trans hb8
   refine hK.out _ _ (HKEEP7.out w8 hb8') (fun hHeld3 => ?_)
   have HB8 := Lib.hid hb8'
   clear hK K hHeld hb8 hb8' x0 x1 hl7
   try simp only [Act.put, List.setIfInBounds_toArray, List.set_cons_zero, List.set_cons_succ]
   refine wpAnyD_keep 7 (by kernel_rfl) rfl (fun K hK => ?_)
   go_simp
   go_at_call 75
   (with_reducible refine (HADD.out _).mono ?_)
   rintro e w9 ⟨rfl, hb9⟩
   have hb9' : Below w7.heap.size w7 w9 := below_via HB8.out hb9
   refine hK.out _ _ (HKEEP7.out w9 hb9') (fun hHeld4 => ?_)
   have HJ9 := Lib.hid (HJ7.out.below hb9')
   clear hK K hHeld3 hb9 hb9' HB8
   try simp only [Act.put, List.setIfInBounds_toArray, List.set_cons_zero, List.set_cons_succ]
   refine tkW 8 (v := ?_) rfl ?_ ?_
   rotate_left
   ·(intro wq hSq; (try dsimp only at hSq); go_simp; try with_reducible rfl)
   try simp only [Act.put, List.setIfInBounds_toArray, List.set_cons_zero, List.set_cons_succ]
   refine tkW 9 (v := ?_) rfl ?_ ?_
   rotate_left
   ·(intro wq hSq; (try dsimp only at hSq); go_simp; try with_reducible rfl)
   try simp only [Act.put, List.setIfInBounds_toArray, List.set_cons_zero, List.set_cons_succ]
   refine tkW 10 (v := ?_) rfl ?_ ?_
   rotate_left
   ·(intro wq hSq; (try dsimp only at hSq); go_simp; try with_reducible rfl)
   try simp only [Act.put, List.setIfInBounds_toArray, List.set_cons_zero, List.set_cons_succ]
   refine wpAnyD_step 11 (by kernel_rfl) rfl rfl (fun K hK => ?_)
   obtain ⟨x0, x1, xf⟩ := wide_cells HJ9.out.h1
   go_simp
   refine hK.out _ _ ?_
   clear hK K hHeld4 x0 x1 xf
   refine wpAnyD_end (by kernel_rfl) ?_
   go_wp2_with fail
   go_roundw
   case rel => exact ⟨j, by omega, rfl, by
    show JSt _ _ _ _ _ _ _
    rw [← HZ.out, ← HZB.out, ← HZT.out]
    exact HJ9.out.set zb zt⟩
   case measure => simp [intOf]
end
/- Walks: division by the last prime. -/
/- Wide integers: helpers and walks, in one text (KC3 KD5 KD6 KD7). -/
/- Plain: what division by the last prime leaves. -/
section
open Go.RowKit PN
theorem balZ_cg (x : Int) (m : Nat) : Cg m (balZ x m) x := by
 unfold balZ
 split
 ·have h := (Cg.of_mod (m := m) (a := x)).sub Cg.zero
  rwa [Int.sub_zero] at h
 ·exact Cg.of_mod
def crtN (ps rs : List Nat) : Nat := mvL ps (digL ps rs ps.length)
def joinZ (ps rs : List Nat) : Int := balZ (crtN ps rs : Nat) (prodL ps : Nat)
theorem crtN_ok {ps rs : List Nat} (hs : Sep ps) (hr : RowP ps rs) : IsCrt ps rs (crtN ps rs) := garner_all hs hr
theorem prodL_pos' {ps : List Nat} (hs : Sep ps) : 0 < prodL ps := prodL_pos fun p hp => (hs.mem hp).1.pos
theorem prodL_le25 {ps : List Nat} (hs : Sep ps) (hl : ps.length ≤ 25) : prodL ps ≤ 4294967296 ^ 25 :=
 Nat.le_trans (prodL_lt (fun p hp => by have := (hs.mem hp).2.2; omega)) (Nat.pow_le_pow_right (by omega) hl)
theorem inR_prodL {ps : List Nat} (hs : Sep ps) (hl : ps.length ≤ 25) : InR ((prodL ps : Nat) : Int) := by
 unfold InR; rw [Int.natAbs_natCast, lim_words]
 exact Nat.lt_of_le_of_lt (prodL_le25 hs hl) (Nat.pow_lt_pow_right (by omega) (by omega))
theorem joinZ_abs {ps rs : List Nat} (hs : Sep ps) : (joinZ ps rs).natAbs < prodL ps := by
 have := balZ_abs ((crtN ps rs : Nat) : Int) ((prodL ps : Nat) : Int) (by have := prodL_pos' hs; omega)
 unfold joinZ
 omega
theorem inR_joinZ {ps rs : List Nat} (hs : Sep ps) (hl : ps.length ≤ 25) : InR (joinZ ps rs) := by
 have := joinZ_abs (rs := rs) hs
 have h2 := inR_prodL hs hl
 unfold InR at *
 omega
end
/- Walks: the methods of a system. -/
section
open Go.RowKit Go.Shelf Go.WideNum PN
theorem owns_empty (W : World) : (W.alloc (.cells #[] 22)).owns W.heap.size 22 1 (.slice (some ⟨W.heap.size, 0, none⟩) 0 0) 0 [] :=
 ⟨by simp, .inr ⟨W.heap.size, 0, #[], (0, 0), rfl, Nat.le_refl _, heap_alloc_new W _, okFz_zero _, Nat.le_refl _, Nat.zero_le _, by simp, by simp⟩⟩
def FormE (w : World) (z : Int) (E : Int) (e : Ending) (w' : World) : Prop := e = .returned (.tuple #[.agg #[.bool (zN z), .string (zT z)], .int .i64 E]) ∧ Below w.heap.size w w'
theorem zT_zero : zT 0 = ⟨#[]⟩ := by kernel_rfl
theorem zN_zero : zN 0 = false := by kernel_rfl
theorem row_any' (b : Nat) (ps rs : List Nat) (rv : Value) (ok : Bool) (hok : ok = true ↔ RowP ps rs) (w W : World) (hs : SysAt W b ps) (hr : w.reads w.heap.size rv (rs.map u32V)) (hb : Below w.heap.size w W) :
  Calls Tryz.prog 47 #[.pointer (some ⟨b, 0, none⟩), rv] W fun e w' => e = .returned (.bool ok) ∧ W = w' := row_any b ps rs rv W hs ((hr.below hb).mono hb.size) ok hok
theorem Join_any (b : Nat) (ps rs : List Nat) (rv : Value) (w : World) (hs : SysAt w b ps) (hsys : SysP ps) (hr : w.reads w.heap.size rv (rs.map u32V)) (ok : Bool) (hok : ok = true ↔ RowP ps rs) :
  Calls Tryz.prog 20 #[.pointer (some ⟨b, 0, none⟩), rv] w (FormE w (if ok then joinZ ps rs else 0) (if ok then 0 else 2)) := by
 obtain ⟨HPOST, hpost⟩ : ∃ R, R = FormE w (if ok then joinZ ps rs else 0) (if ok then 0 else 2) := ⟨_, rfl⟩
 rw [← hpost]
 have HP := Lib.hid hpost
 have HNO : Hid (∀ W, SysAt W b ps → Calls Tryz.prog 46 #[.pointer (some ⟨b, 0, none⟩)] W fun e w' => e = .returned (.bool false) ∧ W = w') := fun W h => none_sys b ps W h
 have HSA := Lib.hid (hs.alloc (.cells #[.bool false, .string ⟨#[]⟩] 40))
 have hab : Below w.heap.size w (w.alloc (.cells #[.bool false, .string ⟨#[]⟩] 40)) := (Below.refl _ _).alloc (Nat.le_refl _) _
 have hg : (w.alloc (.cells #[.bool false, .string ⟨#[]⟩] 40)).heap[w.heap.size]? = some (.cells #[.bool false, .string ⟨#[]⟩] 40) := heap_alloc_new w _
 have HROW := Lib.hid (row_any' b ps rs rv ok hok w _ HSA.out hr hab)
 have HRA := Lib.hid ((hr.below hab).mono hab.size)
 have HOK := Lib.hid hok
 obtain ⟨ra, rc, rfl, -⟩ := reads_u32 hr
 clear hpost hs hr hok
 go_enter Tryz.func20, Tryz.ntmps20
 go_upto_region 1 with (fail)
 generalize w.alloc (.cells #[.bool false, .string ⟨#[]⟩] 40) = wa at hab hg HSA HROW HRA ⊢
 have HG := Lib.hid hg
 have HAB := Lib.hid hab
 clear hab hg
 go_wp2_with fail
 (with_reducible refine (HNO.out _ HSA.out).mono ?_)
 rintro e w1 ⟨rfl, rfl⟩
 go_wp2_with fail
 (with_reducible refine (HROW.out).mono ?_)
 rintro e w1 ⟨rfl, rfl⟩
 cases ok with
 | false =>
  obtain ⟨x0, x1, xf⟩ := wide_cells HG.out
  go_wp2
  have m2 := wide_set HG.out false ⟨#[]⟩
  have hb9 := below_set2 (p := w.heap.size) HAB.out (Nat.le_refl _) false ⟨#[]⟩
  obtain ⟨d20, d21, -⟩ := wide_cells m2
  clear m2 x0 x1 xf
  generalize (wa.setCell ⟨w.heap.size, 0, none⟩ (.bool false)).setCell ⟨w.heap.size, 1, none⟩ (.string ⟨#[]⟩) = W9 at d20 d21 hb9 ⊢
  rw [HP.out]
  exact bodyPost_ret (v := .tuple #[.agg #[.bool false, .string ⟨#[]⟩], .int .i64 2]) (by simp [results, Tryz.results20, go_sem, d20, d21]) rfl ⟨by simp only [Bool.false_eq_true, if_false, zN_zero, zT_zero], hb9⟩
 | true =>
  have hrow := HOK.out.1 rfl
  obtain ⟨jb, hjb⟩ : ∃ z, z = zN (joinZ ps rs) := ⟨_, rfl⟩
  obtain ⟨jt, hjt⟩ : ∃ z, z = zT (joinZ ps rs) := ⟨_, rfl⟩
  have HJ := Lib.hid (join_any b ps rs _ (crtN ps rs) wa HSA.out hsys HRA.out hrow (crtN_ok hsys.sep hrow) jb jt hjb hjt)
  have HJB := Lib.hid hjb
  have HJT := Lib.hid hjt
  clear hjb hjt hrow
  go_wp2_with fail
  (with_reducible refine (HJ.out).mono ?_)
  rintro e w2 ⟨rfl, hb2⟩
  have hg2 := (hb2.block _ (lt_of_heap HG.out)).trans HG.out
  have hbw2 := HAB.out.trans (hb2.mono HAB.out.size)
  obtain ⟨x0, x1, xf⟩ := wide_cells hg2
  have m2 := wide_set hg2 jb jt
  have hb9 := below_set2 (p := w.heap.size) hbw2 (Nat.le_refl _) jb jt
  clear hg2 hb2 hbw2
  go_wp2
  obtain ⟨d20, d21, -⟩ := wide_cells m2
  clear m2 x0 x1 xf
  generalize (w2.setCell ⟨w.heap.size, 0, none⟩ (.bool jb)).setCell ⟨w.heap.size, 1, none⟩ (.string jt) = W9 at d20 d21 hb9 ⊢
  rw [HP.out]
  exact bodyPost_ret (v := .tuple #[.agg #[.bool jb, .string jt], .int .i64 0]) (by simp [results, Tryz.results20, go_sem, d20, d21]) rfl ⟨by simp only [if_true, HJB.out, HJT.out], hb9⟩
end
/- Walks: conversion, and division by the last prime. -/
/- Walks: division by the last prime of what is left after a multiple. -/
/- Plain: the least integer of a row; norms. -/
section
open PN
theorem balZ_min {a b : Int} {m : Nat} (hm : 0 < m) (h : Cg m a b) : (balZ a (m : Int)).natAbs ≤ b.natAbs := by
 have h1 := Int.emod_nonneg a (show (m : Int) ≠ 0 by omega)
 have h2 := Int.emod_lt_of_pos a (show (0 : Int) < m by omega)
 obtain ⟨u, hu⟩ := (Cg.of_mod (m := m) (a := a)).trans h
 unfold balZ
 obtain ⟨r, hr⟩ : ∃ r, r = a % (m : Int) := ⟨_, rfl⟩
 rw [← hr] at h1 h2 hu ⊢
 have hb : b = r - (m : Int) * u := by omega
 obtain ⟨s, hs⟩ : ∃ s, s = (m : Int) * u := ⟨_, rfl⟩
 rw [← hs] at hb
 rcases Int.lt_or_le 0 u with hu1 | hu1
 ·have : (m : Int) * 1 ≤ (m : Int) * u := Int.mul_le_mul_of_nonneg_left (by omega) (by omega)
  split <;> omega
 ·have : (m : Int) * u ≤ (m : Int) * 0 := Int.mul_le_mul_of_nonneg_left hu1 (by omega)
  rw [← hs] at this
  split <;> omega
theorem join_cgQ {ps rs : List Nat} (hs : SysP ps) (hr : RowP ps rs) {z : Int} (hz : ∀ i p r : Nat, ps[i]? = some p → rs[i]? = some r → Cg p z (r : Int)) : Cg (prodL ps) (crtN ps rs : Nat) z := by
 obtain ⟨-, h2⟩ := crtN_ok hs.sep hr
 refine hs.sep.dvd _ fun p hp => ?_
 obtain ⟨i, hi⟩ := List.mem_iff_getElem?.1 hp
 have hil : i < rs.length := by rw [hr.1]; exact (List.getElem?_eq_some_iff.1 hi).1
 have hri : rs[i]? = some rs[i] := List.getElem?_eq_getElem hil
 exact (h2 i p _ hi hri).trans (hz i p _ hi hri).symm
theorem join_min {ps rs : List Nat} (hs : SysP ps) (hr : RowP ps rs) {z : Int} (hz : ∀ i p r : Nat, ps[i]? = some p → rs[i]? = some r → Cg p z (r : Int)) : (joinZ ps rs).natAbs ≤ z.natAbs :=
 balZ_min (prodL_pos' hs.sep) (join_cgQ hs hr hz)
theorem join_small {ps rs : List Nat} (hs : SysP ps) (hr : RowP ps rs) {z : Int} (hz : ∀ i p r : Nat, ps[i]? = some p → rs[i]? = some r → Cg p z (r : Int)) (h : 2 * z.natAbs < prodL ps) : joinZ ps rs = z := by
 have h1 := join_min hs hr hz
 have h2 : Cg (prodL ps) (joinZ ps rs) z := (balZ_cg _ _).trans (join_cgQ hs hr hz)
 obtain ⟨u, hu⟩ := h2
 rcases Int.lt_or_le 0 u with hu1 | hu1
 ·have : ((prodL ps : Nat) : Int) * 1 ≤ ((prodL ps : Nat) : Int) * u := Int.mul_le_mul_of_nonneg_left (by omega) (by omega)
  omega
 ·rcases Int.lt_or_le u 0 with hu2 | hu2
  ·have : ((prodL ps : Nat) : Int) * u ≤ ((prodL ps : Nat) : Int) * (-1) := Int.mul_le_mul_of_nonneg_left (by omega) (by omega)
   omega
  ·have : u = 0 := by omega
   subst this
   omega
end
/- Plain: balanced coefficients and norms of elements. -/
namespace G
def colL (rows : List (List Nat)) (j : Nat) : List Nat := rows.map fun r => r.getD j 0
def wC (ml : List Nat) (rows : List (List Nat)) (j : Nat) : Int := joinZ ml (colL rows j)
theorem colL_get {rows : List (List Nat)} {i j : Nat} {r : List Nat} (h : rows[i]? = some r) : (colL rows j)[i]? = some (r.getD j 0) := by
 unfold colL; rw [List.getElem?_map, h]; rfl
theorem col_row {n : Nat} {ml : List Nat} {rows : List (List Nat)} (h : EltOk n ml rows) {j : Nat} (hj : j < n) : RowP ml (colL rows j) := by
 refine ⟨by unfold colL; rw [List.length_map, h.1], fun i p r hp hr => ?_⟩
 unfold colL at hr
 rw [List.getElem?_map] at hr
 obtain ⟨x, hx, rfl⟩ := Option.map_eq_some_iff.1 hr
 obtain ⟨k1, q, k2, k3⟩ := h.2 i x hx
 rw [hp] at k2
 injection k2 with k2
 subst k2
 refine k3 _ ?_
 rw [List.getD_eq_getElem?_getD, List.getElem?_eq_getElem (by omega)]
 exact List.getElem_mem _
theorem cg_of {q : Nat} {a b : Int} (h : ∃ u, a = b + (q : Int) * u) : Cg q a b := by obtain ⟨u, rfl⟩ := h; exact ⟨u, by omega⟩
def maxN (f : Nat → Int) : Nat → Nat
 | 0 => 0
 | k + 1 => max (maxN f k) (f k).natAbs
end G
/- Wide integers: helpers and walks, in one text (KD8 KD9). -/
/- Walks: a list and a list of rows that grow in one object. -/
end Go.Proofs.YtkjlfjnncdkmlaaGreat
namespace Go
open RowKit
theorem wpList_pushF {P : Program} (W : World) {ops : Array Oper} {rest : List Oper} {o : Oper} {a : Act} {Q : Exit → Act → World → Prop} (hg : o.guard = none) (s x : Operand) (t : TypeId)
  (hop : o.op = .call { callee := .builtin .append, args := #[s, x], argTypes := #[t, t] })
  (base : Nat) (e : TypeId) (i : TypeInfo) (z : Value) (bytes : Nat) (ht : P.underlying t = some (.slice e)) (hi : P.info? e = some i) (hz : i.zero = some z)
  (hsize : i.size = 1) (hby : i.bytes = bytes) (hzs : z.cells.size = 1)
  (v : Value) (n : Nat) (xs : List Value) (hs : a.eval s = v) (hown : W.owns base e 1 v n xs) (u : Value) (H : Nat) (hH : W.heap.size = H) (hx : a.eval x = .slice (some ⟨H, 0, none⟩) 1 1) (h1 : u.oneCell' = true)
  (h63 : n + 1 ≤ maxLen) (hbytes : (n + 1) * bytes ≤ 140737488355328) (hbase : base ≤ W.heap.size)
  (h : ∀ v' w', w'.owns base e 1 v' (n + 1) (xs ++ [u]) → W.grownBy w' v.ownBlock → W.heap.size < w'.heap.size → (v'.ownBlock = v.ownBlock ∨ ∀ k, v'.ownBlock = some k → W.heap.size ≤ k) → wpList P ops Q rest (a.put o.dst v') w') : wpList P ops Q (o :: rest) a (W.alloc (.cells #[u] e)) := by
 subst hH
 refine wpList_plain hg fun K hK' => ?_
 obtain ⟨v', w', hrun, h2, h3, h4⟩ := run_append_fresh (P := P) (W.alloc (.cells #[u] e)) base t o.type e i z bytes ht hi hz hsize hby hzs v n xs (hown.alloc _) ⟨W.heap.size, 0, none⟩ 1 1 [u] rfl (news_alloc W [u] e) (by simpa using h1) h63 hbytes (by simp; omega)
 unfold Oper.wp execOp
 simp only [hop, resolve, invoke, builtin, Sem.run_bind, Sem.run_pure, Result.andThen_ok, List.map_toArray, List.map_cons, List.map_nil, hs, hx, hrun]
 refine hK' _ _ (h v' w' h2 (grownBy_trans (World.grownBy_alloc W _ _) h3) (by have := h3.size; simp at this; omega) ?_)
 rcases h4 with h4 | h4
 ·exact .inl h4
 ·exact .inr fun k hk => by have := h4 k hk; simp at this; omega
end Go
namespace Go.Proofs.YtkjlfjnncdkmlaaGreat
section
open Go.RowKit Go.Shelf Go.WideNum PN
def RowsA (w : World) (base : Nat) (iv : Value) (rows : List (List Nat)) (g : Option Nat) : Prop :=
 ∃ vs : List Value, vs.length = rows.length ∧ w.owns base 23 1 iv rows.length vs ∧ ∀ (i : Nat) (r : List Nat), rows[i]? = some r → ∃ u, vs[i]? = some u ∧ w.owns base 22 1 u r.length (r.map u32V) ∧ (u.ownBlock = none ∨ u.ownBlock ≠ g)
theorem RowsA.nil (w : World) (base : Nat) (g : Option Nat) : RowsA w base (.slice none 0 0) [] g := ⟨[], rfl, World.owns_nil _ _ _ _, fun i r h => by simp at h⟩
theorem RowsA.below {w w' : World} {base : Nat} {iv : Value} {rows : List (List Nat)} {g : Option Nat} (h : RowsA w base iv rows g) (hb : Below w.heap.size w w') : RowsA w' base iv rows g := by
 obtain ⟨vs, h1, h2, h3⟩ := h
 exact ⟨vs, h1, h2.below hb, fun i r hr => by obtain ⟨u, k1, k2, k3⟩ := h3 i r hr; exact ⟨u, k1, k2.below hb, k3⟩⟩
theorem RowsA.setCell {w : World} {base : Nat} {iv : Value} {rows : List (List Nat)} {g : Option Nat} (h : RowsA w base iv rows g) {a : Addr} (ha : a.block < base) (x : Value) : RowsA (w.setCell a x) base iv rows g := by
 obtain ⟨vs, h1, h2, h3⟩ := h
 exact ⟨vs, h1, h2.setCell ha x, fun i r hr => by obtain ⟨u, k1, k2, k3⟩ := h3 i r hr; exact ⟨u, k1, k2.setCell ha x, k3⟩⟩
theorem RowsA.rows {w : World} {base : Nat} {iv : Value} {rows : List (List Nat)} {g : Option Nat} (h : RowsA w base iv rows g) : w.rows u32V w.heap.size iv rows := by
 obtain ⟨vs, h1, h2, h3⟩ := h
 exact ⟨vs, h1, h2.reads, fun i r hr => by obtain ⟨u, k1, k2, -⟩ := h3 i r hr; exact ⟨u, k1, k2.reads⟩⟩
theorem RowsA.open_ {w : World} {base : Nat} {iv : Value} {rows : List (List Nat)} {g : Option Nat} (h : RowsA w base iv rows g) : ∃ a c, iv = .slice a rows.length c := by
 obtain ⟨vs, h1, h2, _⟩ := h
 obtain ⟨a, c, rfl, -⟩ := h2.at_
 exact ⟨a, c, rfl⟩
theorem RowsA.push_list {w w' : World} {base n : Nat} {iv lv lv' : Value} {xs : List Value} {rows : List (List Nat)} (h : RowsA w base iv rows lv.ownBlock) (hl : w.owns base 22 1 lv n xs) (hg : w.grownBy w' lv.ownBlock)
  (hf : lv'.ownBlock = lv.ownBlock ∨ ∀ k, lv'.ownBlock = some k → w.heap.size ≤ k) : RowsA w' base iv rows lv'.ownBlock := by
 obtain ⟨vs, h1, h2, h3⟩ := h
 refine ⟨vs, h1, h2.kept hg ?_, fun i r hr => ?_⟩
 ·cases hv : lv.ownBlock with
  | none =>
   cases hi : iv.ownBlock with
   | none => exact .inl rfl
   | some k => exact .inr (by simp)
  | some k =>
   rcases hl.2 with ⟨rfl, _⟩ | ⟨g, cap, cur, fz, rfl, _, hgg, _⟩
   ·simp [Value.ownBlock] at hv
   ·simp [Value.ownBlock] at hv
    subst hv
    have := h2.ne hgg (by decide)
    exact .inr this
 ·obtain ⟨u, k1, k2, k3⟩ := h3 i r hr
  refine ⟨u, k1, k2.kept hg k3, ?_⟩
  rcases hf with hf | hf
  ·rw [hf]; exact k3
  ·cases hu : u.ownBlock with
   | none => exact .inl rfl
   | some k =>
    refine .inr fun e => ?_
    have h5 := (k2.lt k hu).2
    have h6 := hf k e.symm
    omega
theorem RowsA.push_row {w w' : World} {base n : Nat} {iv iv' lv u : Value} {xs : List Value} {rows : List (List Nat)} {r : List Nat} (h : RowsA w base iv rows lv.ownBlock) (hl : w.owns base 22 1 lv n xs) (hu : w.owns base 22 1 u r.length (r.map u32V)) (hne : u.ownBlock = none ∨ u.ownBlock ≠ lv.ownBlock)
  (hg : w.grownBy w' iv.ownBlock) (hown : ∀ vs, w.owns base 23 1 iv rows.length vs → w'.owns base 23 1 iv' (rows.length + 1) (vs ++ [u])) :
  RowsA w' base iv' (rows ++ [r]) lv.ownBlock ∧ w'.owns base 22 1 lv n xs := by
 obtain ⟨vs, h1, h2, h3⟩ := h
 have hk : ∀ {n : Nat} {x : Value} {xs : List Value}, w.owns base 22 1 x n xs → w'.owns base 22 1 x n xs := by
  intro n x xs hx
  refine hx.kept hg ?_
  rcases h2.2 with ⟨rfl, _⟩ | ⟨g, cap, cur, fz, rfl, _, hgg, _⟩
  ·cases hxo : x.ownBlock
   ·exact .inl rfl
   ·exact .inr (by simp [Value.ownBlock])
  ·exact .inr (hx.ne hgg (by decide))
 refine ⟨⟨vs ++ [u], by simp [h1], by simpa using hown vs h2, fun i y hj => ?_⟩, hk hl⟩
 rcases Nat.lt_trichotomy i rows.length with hlt | rfl | hgt
 ·rw [List.getElem?_append_left hlt] at hj
  obtain ⟨u', k1, k2, k3⟩ := h3 i y hj
  exact ⟨u', by rw [List.getElem?_append_left (by rw [h1]; exact hlt)]; exact k1, hk k2, k3⟩
 ·rw [List.getElem?_append_right (Nat.le_refl _)] at hj
  simp at hj
  subst hj
  exact ⟨u, by rw [← h1, List.getElem?_append_right (Nat.le_refl _)]; simp, hk hu, hne⟩
 ·rw [List.getElem?_append_right (by omega)] at hj
  have : i - rows.length ≠ 0 := by omega
  obtain ⟨m, hm⟩ := Nat.exists_eq_succ_of_ne_zero this
  rw [hm] at hj
  simp at hj
theorem RowsA.unique {w : World} {base : Nat} {iv : Value} {rows : List (List Nat)} {g : Option Nat} (h : RowsA w base iv rows g) : ∃ vs, w.owns base 23 1 iv rows.length vs ∧ ∀ vs', w.owns base 23 1 iv rows.length vs' → vs' = vs := by
 obtain ⟨vs, h1, k2, h3⟩ := h
 refine ⟨vs, k2, fun vs' hv' => ?_⟩
 rcases k2.2 with ⟨e1, e2⟩ | ⟨g, cap, cur, fz, rfl, _, q1, _, _, _, _, q2⟩
 ·have a1 := k2.1; have a2 := hv'.1
  rw [e2] at a1 a2
  have b1 : vs = [] := List.eq_nil_of_length_eq_zero (by simpa using a1)
  have b2 : vs' = [] := List.eq_nil_of_length_eq_zero (by simpa using a2)
  rw [b1, b2]
 ·rcases hv'.2 with ⟨e1, e2⟩ | ⟨g', cap', cur', fz', e1, _, q1', _, _, _, _, q2'⟩
  ·cases e1
  ·injection e1 with e1 e2 e3
   injection e1 with e1
   injection e1 with e1
   subst e1
   rw [q1] at q1'
   injection q1' with q1'
   injection q1' with q1' _ _
   rw [← q2, ← q2', q1']
structure NewSt (w wr : World) (lv iv : Value) (l : List Nat) (rows : List (List Nat)) (Q : Nat) : Prop where
 h0 : wr.heap[w.heap.size]? = some (.cells #[lv, .bool (zN (Q : Nat)), .string (zT (Q : Nat)), iv, .bool true] 82)
 ol : wr.owns (w.heap.size + 1) 22 1 lv l.length (l.map u32V)
 rw' : RowsA wr (w.heap.size + 1) iv rows lv.ownBlock
 bel : Below w.heap.size w wr
theorem NewSt.below {w wr w' : World} {lv iv : Value} {l : List Nat} {rows : List (List Nat)} {Q : Nat} (h : NewSt w wr lv iv l rows Q) (hb : Below wr.heap.size wr w') : NewSt w w' lv iv l rows Q :=
 ⟨(hb.block _ (lt_of_heap h.h0)).trans h.h0, h.ol.below hb, h.rw'.below hb, h.bel.trans (hb.mono h.bel.size)⟩
theorem NewSt.size {w wr : World} {lv iv : Value} {l : List Nat} {rows : List (List Nat)} {Q : Nat} (h : NewSt w wr lv iv l rows Q) : w.heap.size + 1 ≤ wr.heap.size := lt_of_heap h.h0
theorem NewSt.pushL {w wr w' : World} {lv lv' iv : Value} {l : List Nat} {rows : List (List Nat)} {Q p : Nat} (h : NewSt w wr lv iv l rows Q) (ho : w'.owns (w.heap.size + 1) 22 1 lv' (l.length + 1) (l.map u32V ++ [u32V p])) (hg : wr.grownBy w' lv.ownBlock)
  (hf : lv'.ownBlock = lv.ownBlock ∨ ∀ k, lv'.ownBlock = some k → wr.heap.size ≤ k) : w'.heap[w.heap.size]? = some (.cells #[lv, .bool (zN (Q : Nat)), .string (zT (Q : Nat)), iv, .bool true] 82) ∧ NewSt w (w'.setCell ⟨w.heap.size, 0, none⟩ lv') lv' iv (l ++ [p]) rows Q := by
 have hs := h.size
 have hk : w'.heap[w.heap.size]? = some (.cells #[lv, .bool (zN (Q : Nat)), .string (zT (Q : Nat)), iv, .bool true] 82) := by
  rw [hg.block _ (by omega) (fun e => by have := (h.ol.lt _ e.symm).1; omega)]; exact h.h0
 refine ⟨hk, ?_, ?_, ?_, ?_⟩
 ·simp [World.setCell, Array.getElem?_modify, hk]
 ·have := ho.setCell (a := ⟨w.heap.size, 0, none⟩) (by simp) lv'
  rw [List.length_append, List.map_append]
  exact this
 ·exact (h.rw'.push_list h.ol hg hf).setCell (by simp) _
 ·have h1 : Below w.heap.size w w' := h.bel.grown hg (by omega) (fun k hk => by have := (h.ol.lt k hk).1; omega)
  exact h1.setCell (by simp) _
theorem NewSt.pushR {w wr w' : World} {lv iv iv' u : Value} {l : List Nat} {rows : List (List Nat)} {Q : Nat} {r : List Nat} (h : NewSt w wr lv iv l rows Q) (hu : wr.owns (w.heap.size + 1) 22 1 u r.length (r.map u32V)) (hne : u.ownBlock = none ∨ u.ownBlock ≠ lv.ownBlock)
  (hg : wr.grownBy w' iv.ownBlock) (hown : ∀ vs, wr.owns (w.heap.size + 1) 23 1 iv rows.length vs → w'.owns (w.heap.size + 1) 23 1 iv' (rows.length + 1) (vs ++ [u])) :
  w'.heap[w.heap.size]? = some (.cells #[lv, .bool (zN (Q : Nat)), .string (zT (Q : Nat)), iv, .bool true] 82) ∧ NewSt w (w'.setCell ⟨w.heap.size, 3, none⟩ iv') lv iv' l (rows ++ [r]) Q := by
 have hs := h.size
 obtain ⟨vs, k1, -⟩ := h.rw'.unique
 have hk : w'.heap[w.heap.size]? = some (.cells #[lv, .bool (zN (Q : Nat)), .string (zT (Q : Nat)), iv, .bool true] 82) := by
  rw [hg.block _ (by omega) (fun e => by have := (k1.lt _ e.symm).1; omega)]; exact h.h0
 obtain ⟨a1, a2⟩ := h.rw'.push_row h.ol hu hne hg hown
 refine ⟨hk, ?_, ?_, ?_, ?_⟩
 ·simp [World.setCell, Array.getElem?_modify, hk]
 ·exact a2.setCell (by simp) _
 ·exact a1.setCell (by simp) _
 ·have h1 : Below w.heap.size w w' := h.bel.grown hg (by omega) (fun k hk => by have := (k1.lt k hk).1; omega)
  exact h1.setCell (by simp) _
theorem NewSt.setQ {w wr : World} {lv iv : Value} {l : List Nat} {rows : List (List Nat)} {Q : Nat} (h : NewSt w wr lv iv l rows Q) (Q' : Nat) : NewSt w ((wr.setCell ⟨w.heap.size, 1, none⟩ (.bool (zN (Q' : Nat)))).setCell ⟨w.heap.size, 2, none⟩ (.string (zT (Q' : Nat)))) lv iv l rows Q' := by
 refine ⟨?_, ?_, ?_, ?_⟩
 ·simp [World.setCell, Array.getElem?_modify, h.h0]
 ·exact (h.ol.setCell (by simp) _).setCell (by simp) _
 ·exact (h.rw'.setCell (by simp) _).setCell (by simp) _
 ·exact (h.bel.setCell (by simp) _).setCell (by simp) _
end
/- Walks: a system is made. -/
section
open Go.RowKit Go.Shelf Go.WideNum PN
def NewRet (w : World) (ps : List Nat) (ok : Bool) (e : Ending) (w' : World) : Prop :=
 Below w.heap.size w w' ∧ (if ok then e = .returned (.tuple #[.pointer (some ⟨w.heap.size, 0, none⟩), .int .i64 0]) ∧ SysAt w' w.heap.size ps else e = .returned (.tuple #[.pointer none, .int .i64 2]))
def SysO (B : Nat) (w : World) (b : Nat) (ps : List Nat) : Prop := B ≤ b ∧ ∃ lv iv, w.heap[b]? = some (.cells #[lv, .bool (zN (prodL ps : Nat)), .string (zT (prodL ps : Nat)), iv, .bool true] 82) ∧ w.owns B 22 1 lv ps.length (ps.map u32V) ∧ ∃ g, RowsA w B iv (invRows ps) g
theorem SysO.sys {B : Nat} {w : World} {b : Nat} {ps : List Nat} (h : SysO B w b ps) : SysAt w b ps := by
 obtain ⟨-, lv, iv, h1, h2, g, h3⟩ := h
 exact ⟨lv, iv, h1, h2.reads, h3.rows⟩
theorem RowsA.mono {w : World} {B C : Nat} {iv : Value} {rows : List (List Nat)} {g : Option Nat} (h : RowsA w B iv rows g) (hC : C ≤ B) : RowsA w C iv rows g := by
 obtain ⟨vs, h1, h2, h3⟩ := h
 exact ⟨vs, h1, h2.mono hC, fun i r hr => by obtain ⟨u, k1, k2, k3⟩ := h3 i r hr; exact ⟨u, k1, k2.mono hC, k3⟩⟩
theorem NewSt.so {w wr : World} {lv iv : Value} {ps : List Nat} (h : NewSt w wr lv iv ps (invRows ps) (prodL ps)) : SysO w.heap.size wr w.heap.size ps :=
 ⟨Nat.le_refl _, lv, iv, h.h0, h.ol.mono (by omega), _, h.rw'.mono (by omega)⟩
def NewRetS (w : World) (ps : List Nat) (ok : Bool) (e : Ending) (w' : World) : Prop :=
 Below w.heap.size w w' ∧ (if ok then e = .returned (.tuple #[.pointer (some ⟨w.heap.size, 0, none⟩), .int .i64 0]) ∧ SysO w.heap.size w' w.heap.size ps else e = .returned (.tuple #[.pointer none, .int .i64 2]))
theorem NewRetS.no {w w' : World} {ps : List Nat} (h : Below w.heap.size w w') : NewRetS w ps false (.returned (.tuple #[.pointer none, .int .i64 2])) w' := ⟨h, rfl⟩
theorem infoU32r : (Tryz.prog.info? 23).map (fun i => (i.zero, i.size, i.bytes)) = some (some (.slice none 0 0), 1, 24) := by kernel_rfl
theorem hasB_iff (l : List Nat) (x : Nat) : hasB l x = true ↔ x ∈ l := by unfold hasB; simp
theorem SysTo.succ {ps : List Nat} {k p : Nat} (h : SysTo ps k) (hp : ps[k]? = some p) (ho : OkAt (ps.take k) p) : SysTo ps (k + 1) := by
 intro i hi q hq
 rcases (show i < k ∨ i = k by omega) with h1 | rfl
 ·exact h i h1 q hq
 ·rw [hp] at hq; injection hq with hq; rw [← hq]; exact ho
theorem not_sys {ps : List Nat} {k p : Nat} {ok : Bool} (hok : ok = true ↔ SysP ps) (hp : ps[k]? = some p) (h : ¬ OkAt (ps.take k) p) : ok = false := by
 cases h1 : ok
 ·rfl
 ·exact absurd ((hok.1 h1).2.2 k (List.getElem?_eq_some_iff.1 hp).1 p hp) h
theorem invRows_take {ps : List Nat} {k p : Nat} (hp : ps[k]? = some p) : (invRows ps).take (k + 1) = (invRows ps).take k ++ [(ps.take k).map fun q => invN (q % p) p] := take_succR (invRows_get hp)
 where take_succR {l : List (List Nat)} {i : Nat} {r : List Nat} (h : l[i]? = some r) : l.take (i + 1) = l.take i ++ [r] := by rw [List.take_add_one, h]; rfl
theorem New_so (ps : List Nat) (pv : Value) (w : World) (hr : w.reads w.heap.size pv (ps.map u32V)) (hpb : ∀ p ∈ ps, p < 4294967296) (ok : Bool) (hok : ok = true ↔ SysP ps) :
  Calls Tryz.prog 19 #[pv] w (NewRetS w ps ok) := by
 obtain ⟨HPOST, hpost⟩ : ∃ R, R = NewRetS w ps ok := ⟨_, rfl⟩
 rw [← hpost]
 have HP := Lib.hid hpost
 have HOK := Lib.hid hok
 have hl1 := hr.le_map
 have HR := Lib.hid hr
 have HPB := Lib.hid hpb
 obtain ⟨pa, pc, rfl, hpc, hpm, hps⟩ := reads_u32 hr
 have HS := Lib.hid hps
 obtain ⟨n, hn⟩ : ∃ n, n = ps.length := ⟨_, rfl⟩
 rw [← hn] at hpc hl1 HR ⊢
 have HN := Lib.hid hn
 clear hpost hok hr hps hn hpb
 by_cases h1 : n < 1
 ·have t1 : (n : Int) < 1 := by omega
  obtain rfl : ok = false := by
   cases h : ok
   ·rfl
   ·have := (HOK.out.1 h).1; have := HN.out; omega
  clear h1
  go_enter Tryz.func19, Tryz.ntmps19
  go_wp2
  rw [HP.out]
  exact NewRetS.no (Below.refl _ _)
 ·have t1 : ¬ (n : Int) < 1 := by omega
  by_cases h2 : 25 < n
  ·have t2 : (25 : Int) < (n : Int) := by omega
   obtain rfl : ok = false := by
    cases h : ok
    ·rfl
    ·have := (HOK.out.1 h).2.1; have := HN.out; omega
   clear h1 h2
   go_enter Tryz.func19, Tryz.ntmps19
   go_wp2
   rw [HP.out]
   exact NewRetS.no (Below.refl _ _)
  ·have t2 : ¬ (25 : Int) < (n : Int) := by omega
   have hof := fun W => Of_z 1 (by omega) (by omega) W
   obtain ⟨ob, hob⟩ : ∃ z, z = zN 1 := ⟨_, rfl⟩
   obtain ⟨ot, hot⟩ : ∃ z, z = zT 1 := ⟨_, rfl⟩
   rw [← hob, ← hot] at hof
   have HOF := Lib.hid hof
   have HOB := Lib.hid hob
   have HOT := Lib.hid hot
   clear hof hob hot h1 h2
   go_enter Tryz.func19, Tryz.ntmps19
   go_upto_region 4 with (fail)
   have hg0 : (w.alloc (.cells #[.slice none 0 0, .bool false, .string ⟨#[]⟩, .slice none 0 0, .bool true] 82)).heap[w.heap.size]? = some (.cells #[.slice none 0 0, .bool false, .string ⟨#[]⟩, .slice none 0 0, .bool true] 82) := heap_alloc_new w _
   have hab : Below w.heap.size w (w.alloc (.cells #[.slice none 0 0, .bool false, .string ⟨#[]⟩, .slice none 0 0, .bool true] 82)) := (Below.refl _ _).alloc (Nat.le_refl _) _
   generalize w.alloc (.cells #[.slice none 0 0, .bool false, .string ⟨#[]⟩, .slice none 0 0, .bool true] 82) = wa at hg0 hab ⊢
   have HG0 := Lib.hid hg0
   have HAB := Lib.hid hab
   clear hg0 hab
   go_wp2_with fail
   (with_reducible refine (HOF.out _).mono ?_)
   rintro e w1 ⟨rfl, hb1⟩
   have hg1 := (hb1.block _ (lt_of_heap HG0.out)).trans HG0.out
   have hb01 := HAB.out.trans (hb1.mono HAB.out.size)
   have hst : NewSt w ((w1.setCell ⟨w.heap.size, 1, none⟩ (.bool ob)).setCell ⟨w.heap.size, 2, none⟩ (.string ot)) (.slice none 0 0) (.slice none 0 0) [] [] 1 := by
    refine ⟨?_, World.owns_nil _ _ _ _, RowsA.nil _ _ _, (hb01.setCell (by simp) _).setCell (by simp) _⟩
    rw [HOB.out, HOT.out]
    simp [World.setCell, Array.getElem?_modify, hg1]
   have HST := Lib.hid hst
   obtain ⟨-, c1, c2, -, -, -, f1, f2, -⟩ := five_sys hg1
   clear hb1 hb01 hst hg1
   go_upto_region 5 with (fail)
   generalize (w1.setCell ⟨w.heap.size, 1, none⟩ (.bool ob)).setCell ⟨w.heap.size, 2, none⟩ (.string ot) = w2 at HST ⊢
   clear c1 c2 f1 f2 HG0 HAB HOF HOB HOT
   go_wp2_with fail
   go_loopw [29] (fun iv wr => ∃ k : Nat, k ≤ n ∧ iv = .int .i64 (k : Int) ∧ Hid (SysTo ps k) ∧ Hid (∃ lv rv, NewSt w wr lv rv (ps.take k) ((invRows ps).take k) (prodL (ps.take k)))) (fun iv _ => n - (intOf iv).toNat)
   case atStart => exact ⟨0, Nat.zero_le _, rfl, fun i hi => by omega, ⟨_, _, HST.out⟩⟩
   case round =>
    obtain ⟨k, hk, rfl, hto, hS⟩ := hrel
    obtain ⟨wo, rfl⟩ : ∃ x, x = wr := ⟨_, rfl⟩
    obtain ⟨lv, rv, hS⟩ := hS.out
    have HS0 := Lib.hid hS
    clear hS
    by_cases hlt : k < n
    ·have hkp : k < ps.length := by rw [← HN.out]; exact hlt
     obtain ⟨p, hp⟩ : ∃ p, ps[k]? = some p := ⟨ps[k], List.getElem?_eq_getElem hkp⟩
     obtain ⟨b2, o2, rfl, hb2l, d2⟩ := HS.out k p hp
     have hpl : p < 4294967296 := HPB.out p (List.mem_of_getElem? hp)
     have e2 := (HS0.out.bel.cell (p := ⟨b2, o2 + k, none⟩) hb2l).trans d2
     have HP1 := Lib.hid hp
     have s1 : (k : Int) < (n : Int) := by omega
     have s2 : k ≤ pc := by omega
     have s3 : (k : Int) ≤ (pc : Int) := by omega
     clear hkp hp d2
     by_cases hev : p % 2 = 0
     ·obtain rfl : ok = false := not_sys HOK.out HP1.out (fun h => by have := h.1; omega)
      have u1 : (p : Int) % 2 = 0 := by omega
      clear hev
      go_wp2
      rw [HP.out]
      exact NewRetS.no HS0.out.bel
     ·have u1 : (p : Int) % 2 = 1 := by omega
      by_cases hmx : 2147483647 < p
      ·obtain rfl : ok = false := not_sys HOK.out HP1.out (fun h => by have := h.2.1; omega)
       have u2 : (2147483647 : Int) < (p : Int) := by omega
       clear hev hmx
       go_wp2
       rw [HP.out]
       exact NewRetS.no HS0.out.bel
      ·have u2 : ¬ (2147483647 : Int) < (p : Int) := by omega
       obtain ⟨has, hhas⟩ : ∃ z, z = hasB (ps.take k) p := ⟨_, rfl⟩
       have hcon : Calls Tryz.prog 43 #[.slice (some ⟨b2, o2, none⟩) k pc, .int .u32 (p : Int)] wo fun e w' => e = .returned (.bool has) ∧ wo = w' := by
        rw [hhas]
        have h1 := ((HR.out.below HS0.out.bel).take k (by omega))
        rw [← List.map_take] at h1
        exact Contains_any p _ (ps.take k) _ wo h1
       have HCON := Lib.hid hcon
       obtain ⟨pr, hpr⟩ := em_bool (PrimeP p)
       have HPRM := Lib.hid (fun W => Prime_any p hpl pr hpr W)
       have HPR := Lib.hid hpr
       have HHAS := Lib.hid hhas
       have hodd : p % 2 = 1 := by omega
       have hmax : p ≤ 2147483647 := by omega
       clear hcon hpr hhas hev hmx
       go_wp2_with fail
       (with_reducible refine (HCON.out).mono ?_)
       rintro e w3 ⟨rfl, rfl⟩
       cases has with
       | true =>
        obtain rfl : ok = false := not_sys HOK.out HP1.out (fun h => h.2.2.1 ((hasB_iff _ _).1 HHAS.out.symm))
        go_wp2
        rw [HP.out]
        exact NewRetS.no HS0.out.bel
       | false =>
        go_wp2_with fail
        (with_reducible refine (HPRM.out _).mono ?_)
        rintro e w5 ⟨rfl, hb5⟩
        have HB5 := Lib.hid (HS0.out.bel.trans (hb5.mono HS0.out.bel.size))
        cases pr with
        | false =>
         obtain rfl : ok = false := not_sys HOK.out HP1.out (fun h => by have := HPR.out.2 h.2.2.2; cases this)
         clear hb5
         go_wp2
         rw [HP.out]
         exact NewRetS.no HB5.out
        | true =>
         have hok1 : OkAt (ps.take k) p := ⟨hodd, hmax, fun h => (by have h2 := (hasB_iff _ _).2 h; rw [← HHAS.out] at h2; cases h2), HPR.out.1 rfl⟩
         have HTO2 := Lib.hid (hto.out.succ HP1.out hok1)
         have hprp := hok1.2.2.2.pr (by omega)
         have HPP := Lib.hid hprp
         have HS5 := Lib.hid (HS0.out.below hb5)
         have hp3 : 3 ≤ p := by have := hprp.1; omega
         have HCOP : Hid (∀ j q : Nat, j < k → ps[j]? = some q → Nat.gcd p (q % p) = 1 ∧ q ≤ 2147483647) := fun j q hj hq => by
          obtain ⟨o1, o2, o3, o4⟩ := hto.out j hj q hq
          have hne : p ≠ q := fun e => hok1.2.2.1 (by rw [e]; exact List.mem_of_getElem? (by rw [List.getElem?_take, if_pos hj]; exact hq))
          refine ⟨?_, o2⟩
          rw [Nat.gcd_comm, ← Nat.gcd_rec]
          exact pr_cop hprp (o4.pr (by omega)) hne
         obtain ⟨R, hR⟩ : ∃ R, R = (ps.take k).map fun q => invN (q % p) p := ⟨_, rfl⟩
         have HRL := Lib.hid hR
         have n1 : ((p : Int) == 0) = false := by rw [beq_eq_false_iff_ne]; omega
         have hk24 : k ≤ 25 := by omega
         obtain ⟨i0, hi0, hiz, hiz1, hizb⟩ := info_parts infoU32
         have HI0 := Lib.hid hi0
         clear hb5 hok1 hto hprp hR HCON HPRM HHAS hodd HS0 e2 hi0
         go_wp2_with fail
         go_loopw [7, 57] (fun sv jv wr => ∃ j : Nat, j ≤ k ∧ jv = .int .i64 (j : Int) ∧ Hid (wr.owns w5.heap.size 22 1 sv j ((R.take j).map u32V)) ∧ Hid (Below w5.heap.size w5 wr)) (fun _ jv _ => k - (intOf jv).toNat)
         case atStart => exact ⟨0, Nat.zero_le _, rfl, World.owns_nil _ _ _ _, Below.refl _ _⟩
         case round =>
          obtain ⟨j, hj, rfl, hO, hB⟩ := hrel
          obtain ⟨sa, sc, rfl, -⟩ := hO.out.at_
          by_cases hjk : j < k
          ·have hjp : j < ps.length := by have := HN.out; omega
           obtain ⟨q, hq⟩ : ∃ q, ps[j]? = some q := ⟨ps[j], List.getElem?_eq_getElem hjp⟩
           obtain ⟨b3, o3, hpa3, hb3l, d3⟩ := HS.out j q hq
           injection hpa3 with hpa3
           injection hpa3 with hpa3 hpa4 _
           subst hpa3 hpa4
           obtain ⟨hgc, hqm⟩ := HCOP.out j q hjk hq
           obtain ⟨qp, hqp⟩ : ∃ z, z = q % p := ⟨_, rfl⟩
           have hqpl : qp < p := by rw [hqp]; exact Nat.mod_lt _ (by omega)
           rw [← hqp] at hgc
           obtain ⟨i1, i2, -⟩ := invN_spec (show 2 ≤ p by omega) hpl hqpl hgc
           obtain ⟨iw, hiw⟩ : ∃ z, z = invN qp p := ⟨_, rfl⟩
           rw [← hiw] at i1 i2
           have HINV := Lib.hid (fun W => Inverse_in qp p iw hqpl (by omega) hmax i1 i2 W)
           have n3 : (q : Int) % (p : Int) = (qp : Int) := by rw [hqp]; simp
           have e3 := ((HB5.out.trans (hB.out.mono HB5.out.size)).cell (p := ⟨b2, o2 + j, none⟩) hb3l).trans d3
           have hRj : R[j]? = some iw := by rw [HRL.out, List.getElem?_map, List.getElem?_take, if_pos hjk, hq, hiw, hqp]; rfl
           have HNXT : Hid ((R.take (j + 1)).map u32V = (R.take j).map u32V ++ [.int .u32 (iw : Int)]) := by
            show _ = _
            rw [List.take_add_one, hRj, List.map_append]; rfl
           have t3 : (j : Int) < (k : Int) := by omega
           clear hq d3 hgc hqp i2 hiw hRj hjp hqm
           go_wp2_with fail
           (with_reducible refine (HINV.out _).mono ?_)
           rintro e w6 ⟨rfl, hb6⟩
           have HO6 := Lib.hid (hO.out.below hb6)
           have HB6 := Lib.hid (hB.out.trans (hb6.mono hB.out.size))
           have hz6 : w5.heap.size ≤ w6.heap.size := HB6.out.size
           clear hb6 hO hB e3 HINV
           go_wp2_with (at_builtin; refine wpList_push1 rfl (.tmp 69) (.tmp 71) 23 rfl w5.heap.size 22 i0 (.int .u32 0) 4 Tryz.underlying23 HI0.out hiz hiz1 hizb rfl (.slice sa j sc) j _ rfl HO6.out (.int .u32 (iw : Int)) w6.heap.size rfl rfl (by simp [Value.oneCell']) (by unfold maxLen; omega) (by omega) hz6 ?_; intro v7 w7 ho7 hs7 hB7; have HO7 := Lib.hid ho7; have HB7 := Lib.hid (hB7 w5.heap.size w5 HB6.out (Nat.le_refl _)); obtain ⟨va7, vc7, rfl, -⟩ := ho7.at_; clear ho7 hs7 hB7)
           go_roundw
           case rel => exact ⟨j + 1, by omega, by go_num, by
            show World.owns _ _ _ _ _ _ _
            rw [HNXT.out]
            exact HO7.out, HB7.out⟩
           case measure => simp [intOf]; omega
          ·obtain rfl : k = j := by omega
           have hRl : R.length = k := by rw [HRL.out, List.length_map, List.length_take]; have := HN.out; omega
           have hRt : R.take k = R := List.take_of_length_le (by omega)
           have hO1 := hO.out
           rw [hRt] at hO1
           have hNS := HS5.out.below hB.out
           have hs5 := HS5.out.size
           have hOu : wr.owns (w.heap.size + 1) 22 1 (.slice sa k sc) R.length (R.map u32V) := by rw [hRl]; exact hO1.mono hs5
           have hne : (Value.slice sa k sc).ownBlock = none ∨ (Value.slice sa k sc).ownBlock ≠ lv.ownBlock := by
            cases hu : (Value.slice sa k sc).ownBlock with
            | none => exact .inl rfl
            | some g =>
             refine .inr fun e => ?_
             have q1 := (hO1.lt g hu).1
             have q2 := (HS5.out.ol.lt g e.symm).2
             omega
           have hll : (ps.take k).length = k := by rw [List.length_take]; have := HN.out; omega
           have hrl : ((invRows ps).take k).length = k := by rw [List.length_take]; simp [invRows]; have := HN.out; omega
           obtain ⟨la, lc, hlv, -⟩ := hNS.ol.at_
           rw [hll] at hlv
           subst hlv
           obtain ⟨ia, ic, hrv⟩ := hNS.rw'.open_
           rw [hrl] at hrv
           subst hrv
           obtain ⟨c0, -, -, -, -, f0, -⟩ := five_sys hNS.h0
           have hol := hNS.ol
           rw [hll] at hol
           have HOL := Lib.hid hol
           have HNS := Lib.hid hNS
           have HOU := Lib.hid hOu
           have HNE := Lib.hid hne
           have HRLEN := Lib.hid hRl
           have HLL := Lib.hid hll
           have HRRL := Lib.hid hrl
           have hwr1 : w.heap.size + 1 ≤ wr.heap.size := hNS.size
           obtain ⟨i1, hi1, hi1z, hi1z1, hi1b⟩ := info_parts infoU32r
           have HI1 := Lib.hid hi1
           have t5 : ¬ (k : Int) < (k : Int) := by omega
           clear hO1 hNS hOu hne hol hRl hRt hll hrl hO hB hs5 hi1 HB5 HCOP
           go_upto_region 18 with (at_builtin; refine wpList_pushF wr rfl (.tmp 79) (.tmp 81) 23 rfl (w.heap.size + 1) 22 i0 (.int .u32 0) 4 Tryz.underlying23 HI0.out hiz hiz1 hizb rfl (.slice la k lc) k _ rfl HOL.out (.int .u32 (p : Int)) wr.heap.size rfl rfl (by simp [Value.oneCell']) (by unfold maxLen; omega) (by omega) hwr1 ?_; intro v7 w7 ho7 hg7 hz7 hf7; obtain ⟨hk7, hN7⟩ := HNS.out.pushL (p := p) (by rw [HLL.out]; exact ho7) hg7 hf7; have HN7 := Lib.hid hN7; have HU7 := Lib.hid ((HOU.out.kept hg7 HNE.out).setCell (a := ⟨w.heap.size, 0, none⟩) (by simp) v7); have HF7 := Lib.hid hf7; have HZU : Hid (∀ g, (Value.slice sa k sc).ownBlock = some g → g < wr.heap.size) := (fun g hg => (HOU.out.lt g hg).2); obtain ⟨va7, vc7, rfl, -⟩ := ho7.at_; obtain ⟨c0, -, -, -, -, f0, -⟩ := five_sys hk7; clear ho7 hg7 hk7 hN7 hf7)
           generalize w7.setCell ⟨w.heap.size, 0, none⟩ (.slice va7 (k + 1) vc7) = w8 at HN7 HU7 ⊢
           clear c0 f0
           have hne8 : (Value.slice sa k sc).ownBlock = none ∨ (Value.slice sa k sc).ownBlock ≠ (Value.slice va7 (k + 1) vc7).ownBlock := by
            rcases HF7.out with h | h
            ·rw [h]; exact HNE.out
            ·cases hu : (Value.slice sa k sc).ownBlock with
             | none => exact .inl rfl
             | some g =>
              refine .inr fun e => ?_
              have q1 := HZU.out g hu
              have q2 := h g e.symm
              omega
           have HNE8 := Lib.hid hne8
           obtain ⟨vs8, k8, huniq8⟩ := HN7.out.rw'.unique
           have hk8 := k8
           rw [HRRL.out] at hk8
           have HK8 := Lib.hid hk8
           have HUQ := Lib.hid huniq8
           obtain ⟨-, -, -, c3, -, -, -, -, f3⟩ := five_sys HN7.out.h0
           have hw81 : w.heap.size + 1 ≤ w8.heap.size := HN7.out.size
           clear hne8 k8 hk8 huniq8 hwr1 hz7
           go_upto_region 19 with (at_builtin; refine wpList_pushF w8 rfl (.tmp 91) (.tmp 93) 26 rfl (w.heap.size + 1) 23 i1 (.slice none 0 0) 24 Tryz.underlying26 HI1.out hi1z hi1z1 hi1b rfl (.slice ia k ic) k vs8 rfl HK8.out (.slice sa k sc) w8.heap.size rfl rfl (by rfl) (by unfold maxLen; omega) (by omega) hw81 ?_; intro v9 w9 ho9 hg9 hz9 hf9; obtain ⟨hk9, hN9⟩ := HN7.out.pushR (iv' := v9) HU7.out HNE8.out hg9 (fun vs hvs => by rw [HUQ.out vs hvs, HRRL.out]; exact ho9); have HN9 := Lib.hid hN9; obtain ⟨va9, vc9, rfl, -⟩ := ho9.at_; obtain ⟨-, -, -, c3, -, -, -, -, f3⟩ := five_sys hk9; clear ho9 hg9 hk9 hN9 hf9 hz9)
           generalize w9.setCell ⟨w.heap.size, 3, none⟩ (.slice va9 (k + 1) vc9) = wA at HN9 ⊢
           clear c3 f3 HN7 HU7 HK8 HUQ HNE8 hw81
           obtain ⟨X, hX⟩ : ∃ X, X = prodL (ps.take k) := ⟨_, rfl⟩
           obtain ⟨Y, hY⟩ : ∃ Y, Y = X * p := ⟨_, rfl⟩
           have hYp : Y = prodL (ps.take (k + 1)) := by rw [take_succ' HP1.out, prodL_snoc, ← hX, hY]
           have hbd : ∀ i, i ≤ 26 → prodL (ps.take i) < 4294967296 ^ 64 := fun i hi => by
            have h1 := prodL_lt (l := ps.take i) (fun q hq => HPB.out q (List.mem_of_mem_take hq))
            have h2 : 4294967296 ^ (ps.take i).length ≤ 4294967296 ^ 26 := Nat.pow_le_pow_right (by omega) (by rw [List.length_take]; omega)
            have h3 : 4294967296 ^ 26 < 4294967296 ^ 64 := Nat.pow_lt_pow_right (by omega) (by omega)
            omega
           have rX : InR (X : Int) := by unfold InR; rw [Int.natAbs_natCast, lim_words, hX]; exact hbd k (by omega)
           have rY : InR (Y : Int) := by unfold InR; rw [Int.natAbs_natCast, lim_words, hYp]; exact hbd (k + 1) (by omega)
           have rp : InR (p : Int) := inR_small (by omega)
           have eY : (X : Int) * (p : Int) = (Y : Int) := by rw [hY]; simp
           have hmul := fun W => Mul_z (X : Int) (p : Int) rX rp (by rw [eY]; exact rY) W
           have hofp := fun W => Of_z (p : Int) (by omega) (by omega) W
           unfold WideOk at hmul
           rw [eY] at hmul
           rw [← hX] at HN9
           obtain ⟨-, c1, c2, -⟩ := five_sys HN9.out.h0
           obtain ⟨xb, hxb⟩ : ∃ z, z = zN (X : Int) := ⟨_, rfl⟩
           obtain ⟨xt, hxt⟩ : ∃ z, z = zT (X : Int) := ⟨_, rfl⟩
           obtain ⟨yb, hyb⟩ : ∃ z, z = zN (Y : Int) := ⟨_, rfl⟩
           obtain ⟨yt, hyt⟩ : ∃ z, z = zT (Y : Int) := ⟨_, rfl⟩
           obtain ⟨pb, hpb⟩ : ∃ z, z = zN (p : Int) := ⟨_, rfl⟩
           obtain ⟨pt, hpt⟩ : ∃ z, z = zT (p : Int) := ⟨_, rfl⟩
           rw [← hxb, ← hxt, ← hpb, ← hpt, ← hyb, ← hyt] at hmul
           rw [← hxb] at c1
           rw [← hxt] at c2
           rw [← hpb, ← hpt] at hofp
           have HMUL := Lib.hid hmul
           have HOFP := Lib.hid hofp
           have HYB := Lib.hid hyb
           have HYT := Lib.hid hyt
           have HYP := Lib.hid hYp
           have hwA1 : w.heap.size < wA.heap.size := HN9.out.size
           have w64p : IntKind.i64.wrap (p : Int) = (p : Int) := by rw [IntKind.wrap_i64]; omega
           clear hmul hofp hxb hxt hyb hyt hpb hpt hX hY hYp hbd rX rY rp eY
           go_wp2_with fail
           refine wp_region_late (fun w' => w'.cell? ⟨w.heap.size, 1, none⟩ = some (.bool xb) ∧ w'.cell? ⟨w.heap.size, 2, none⟩ = some (.string xt)) (fun j => decide (j = 16)) (by kernel_rfl) ⟨c1, c2⟩ (fun hHeld => ?_)
           refine tkD 0 (v := ?_) rfl ?_ ?_
           rotate_left
           ·(intro wq hSq; (try dsimp only at hSq); go_simp; try with_reducible rfl)
           try simp only [Act.put, List.setIfInBounds_toArray, List.set_cons_zero, List.set_cons_succ]
           refine tkD 1 (v := ?_) rfl ?_ ?_
           rotate_left
           ·(intro wq hSq; (try dsimp only at hSq); go_simp; try with_reducible rfl)
           try simp only [Act.put, List.setIfInBounds_toArray, List.set_cons_zero, List.set_cons_succ]
           refine tkD 2 (v := ?_) rfl ?_ ?_
           rotate_left
           ·(intro wq hSq; (try dsimp only at hSq); go_simp; try with_reducible rfl)
           try simp only [Act.put, List.setIfInBounds_toArray, List.set_cons_zero, List.set_cons_succ]
           refine tkD 3 (v := ?_) rfl ?_ ?_
           rotate_left
           ·(intro wq hSq; (try dsimp only at hSq); go_simp; try with_reducible rfl)
           try simp only [Act.put, List.setIfInBounds_toArray, List.set_cons_zero, List.set_cons_succ]
           refine tkD 4 (v := ?_) rfl ?_ ?_
           rotate_left
           ·(intro wq hSq; (try dsimp only at hSq); go_simp; try with_reducible rfl)
           try simp only [Act.put, List.setIfInBounds_toArray, List.set_cons_zero, List.set_cons_succ]
           refine tkD 5 (v := ?_) rfl ?_ ?_
           rotate_left
           ·(intro wq hSq; (try dsimp only at hSq); go_simp; try with_reducible rfl)
           try simp only [Act.put, List.setIfInBounds_toArray, List.set_cons_zero, List.set_cons_succ]
           refine tkD 6 (v := ?_) rfl ?_ ?_
           rotate_left
           ·(intro wq hSq; (try dsimp only at hSq); go_simp; try with_reducible rfl)
           try simp only [Act.put, List.setIfInBounds_toArray, List.set_cons_zero, List.set_cons_succ]
           refine tkD 7 (v := ?_) rfl ?_ ?_
           rotate_left
           ·(intro wq hSq; (try dsimp only at hSq); go_simp; try with_reducible rfl)
           try simp only [Act.put, List.setIfInBounds_toArray, List.set_cons_zero, List.set_cons_succ]
           refine wpAnyD_keep 8 (by kernel_rfl) rfl (fun K hK => ?_)
           go_simp
           go_at_call 42
           (with_reducible refine (HOFP.out _).mono ?_)
           rintro e wB ⟨rfl, hbB⟩
           have hbB' : Below wA.heap.size wA wB := ((Below.refl wA.heap.size wA).drew).trans hbB
           refine hK.out _ _ ⟨(hbB'.cell (p := ⟨w.heap.size, 1, none⟩) hwA1).trans c1, (hbB'.cell (p := ⟨w.heap.size, 2, none⟩) hwA1).trans c2⟩ (fun hHeld3 => ?_)
           have HBB := Lib.hid hbB'
           clear hK K hHeld hbB hbB'
           try simp only [Act.put, List.setIfInBounds_toArray, List.set_cons_zero, List.set_cons_succ]
           refine wpAnyD_keep 9 (by kernel_rfl) rfl (fun K hK => ?_)
           go_simp
           go_at_call 45
           (with_reducible refine (HMUL.out _).mono ?_)
           rintro e wC ⟨rfl, hbC⟩
           have hbC' : Below wA.heap.size wA wC := below_via HBB.out hbC
           refine hK.out _ _ ⟨(hbC'.cell (p := ⟨w.heap.size, 1, none⟩) hwA1).trans c1, (hbC'.cell (p := ⟨w.heap.size, 2, none⟩) hwA1).trans c2⟩ (fun hHeld4 => ?_)
           have HNC := Lib.hid (HN9.out.below hbC')
           clear hK K hHeld3 hbC hbC' c1 c2
           try simp only [Act.put, List.setIfInBounds_toArray, List.set_cons_zero, List.set_cons_succ]
           refine tkW 10 (v := ?_) rfl ?_ ?_
           rotate_left
           ·(intro wq hSq; (try dsimp only at hSq); go_simp; try with_reducible rfl)
           try simp only [Act.put, List.setIfInBounds_toArray, List.set_cons_zero, List.set_cons_succ]
           refine tkW 11 (v := ?_) rfl ?_ ?_
           rotate_left
           ·(intro wq hSq; (try dsimp only at hSq); go_simp; try with_reducible rfl)
           try simp only [Act.put, List.setIfInBounds_toArray, List.set_cons_zero, List.set_cons_succ]
           refine tkW 12 (v := ?_) rfl ?_ ?_
           rotate_left
           ·(intro wq hSq; (try dsimp only at hSq); go_simp; try with_reducible rfl)
           try simp only [Act.put, List.setIfInBounds_toArray, List.set_cons_zero, List.set_cons_succ]
           refine tkW 13 (v := ?_) rfl ?_ ?_
           rotate_left
           ·(intro wq hSq; (try dsimp only at hSq); go_simp; try with_reducible rfl)
           try simp only [Act.put, List.setIfInBounds_toArray, List.set_cons_zero, List.set_cons_succ]
           refine tkW 14 (v := ?_) rfl ?_ ?_
           rotate_left
           ·(intro wq hSq; (try dsimp only at hSq); go_simp; try with_reducible rfl)
           try simp only [Act.put, List.setIfInBounds_toArray, List.set_cons_zero, List.set_cons_succ]
           refine tkW 15 (v := ?_) rfl ?_ ?_
           rotate_left
           ·(intro wq hSq; (try dsimp only at hSq); go_simp; try with_reducible rfl)
           try simp only [Act.put, List.setIfInBounds_toArray, List.set_cons_zero, List.set_cons_succ]
           refine wpAnyD_step 16 (by kernel_rfl) rfl rfl (fun K hK => ?_)
           obtain ⟨-, c1, c2, -, -, -, f1, f2, -⟩ := five_sys HNC.out.h0
           go_simp
           refine hK.out _ _ ?_
           clear hK K hHeld4 c1 c2 f1 f2
           refine wpAnyD_end (by kernel_rfl) ?_
           go_wp2_with fail
           go_roundw
           case rel => exact ⟨k + 1, by omega, by go_num, HTO2.out, _, _, by
            have h1 := HNC.out.setQ Y
            rw [← HYB.out, ← HYT.out] at h1
            rw [take_succ' HP1.out, invRows_take HP1.out, ← HRL.out, prodL_snoc, ← prodL_snoc, ← take_succ' HP1.out, ← HYP.out, take_succ' HP1.out]
            exact h1⟩
           case measure => simp [intOf]; omega
    ·obtain rfl : k = n := by omega
     obtain rfl : ok = true := HOK.out.2 ⟨by have := HN.out; omega, by have := HN.out; omega, by rw [← HN.out]; exact hto.out⟩
     have h5 := HS0.out
     rw [HN.out, List.take_length, List.take_of_length_le (show (invRows ps).length ≤ ps.length by simp [invRows])] at h5
     have HF := Lib.hid h5
     clear h5 hto HS0
     go_wp2
     rw [HP.out]
     exact ⟨HF.out.bel, rfl, HF.out.so⟩
theorem New_any (ps : List Nat) (pv : Value) (w : World) (hr : w.reads w.heap.size pv (ps.map u32V)) (hpb : ∀ p ∈ ps, p < 4294967296) (ok : Bool) (hok : ok = true ↔ SysP ps) :
  Calls Tryz.prog 19 #[pv] w (NewRet w ps ok) := by
 refine (New_so ps pv w hr hpb ok hok).mono ?_
 rintro e w' ⟨h1, h2⟩
 refine ⟨h1, ?_⟩
 cases ok with
 | false => exact h2
 | true => exact ⟨h2.1, h2.2.sys⟩
end
/- Walks: the balanced coefficients of an element (the program's). -/
namespace G
open Go.RowKit Go.Shelf Go.BigFrame
attribute [local go_sem] Oper.semAt_some
def AllP (ml : List Nat) : Prop := ∀ q ∈ ml, PrimeP q
def WideI {k : Nat} (w W2 : World) (lb : Nat) (m : Fin k → Nat) (pre : List (Fin k)) (W : World) : Prop :=
 (∃ sv, W.heap[lb]? = some (.cells #[sv] 23) ∧ W.owns W2.heap.size 22 1 sv pre.length ((pre.map m).map u32V)) ∧ (∀ x ∈ pre, PrimeP (m x)) ∧ KeepP (fun b => b < W2.heap.size ∧ b ≠ lb) W2 W ∧ Below w.heap.size w W ∧ W2.heap.size ≤ W.heap.size
theorem wideI_own {k : Nat} (w W2 : World) (lb : Nat) (hlb : lb < W2.heap.size) (hw : w.heap.size ≤ W2.heap.size) (m : Fin k → Nat) : OwnFrom W2.heap.size (WideI w W2 lb m) := by
 rintro pre W W' row ⟨⟨sv, h1, h2⟩, h3, h4, h5, h6⟩ hg hr
 have hc : ∀ (g : Nat) (c : Array Value) (t : TypeId) (fz : Nat × Nat), W.heap[g]? = some (.cells c t fz) → W'.heap[g]? = W.heap[g]? := fun g c t fz h => grownBy_keeps_cells hg (fun r e => (hr r e).2) h rfl
 exact ⟨⟨sv, (hc _ _ _ _ h1).trans h1, h2.keptBy (fun g c fz _ h => hc g c _ fz h)⟩, h3, h4.grown hg (fun b hb => Nat.lt_of_lt_of_le hb.1 h6) (fun r e hb => by have := (hr r e).1; have := hb.1; omega),
  h5.grown hg h5.size (fun r e => by have := (hr r e).1; omega), Nat.le_trans h6 hg.size⟩
def wPart (F : Nat → Int) (n j : Nat) : Array Value := ((List.range (2 * n)).map fun c => if c / 2 < j then (if c % 2 = 0 then Value.bool (zN (F (c / 2))) else Value.string (zT (F (c / 2)))) else (if c % 2 = 0 then Value.bool false else Value.string ⟨#[]⟩)).toArray
def wArr (F : Nat → Int) (n : Nat) : Array Value := wPart F n n
theorem wPart_size (F : Nat → Int) (n j : Nat) : (wPart F n j).size = 2 * n := by simp [wPart]
theorem wPart_get {F : Nat → Int} {n j c : Nat} (hc : c < 2 * n) : (wPart F n j)[c]? = some (if c / 2 < j then (if c % 2 = 0 then Value.bool (zN (F (c / 2))) else Value.string (zT (F (c / 2)))) else (if c % 2 = 0 then Value.bool false else Value.string ⟨#[]⟩)) := by
 unfold wPart
 rw [List.getElem?_toArray, List.getElem?_map, List.getElem?_range hc]
 rfl
theorem wPart_set {F : Nat → Int} {n j : Nat} (hj : j < n) : ((wPart F n j).setIfInBounds (2 * j) (.bool (zN (F j)))).setIfInBounds (2 * j + 1) (.string (zT (F j))) = wPart F n (j + 1) := by
 apply Array.ext_getElem?
 intro c
 by_cases hc : c < 2 * n
 ·rw [wPart_get hc, Array.getElem?_setIfInBounds, Array.getElem?_setIfInBounds]
  by_cases h1 : 2 * j + 1 = c
  ·rw [if_pos h1, if_pos (by simp [wPart_size]; omega), if_pos (by omega), if_neg (by omega), show c / 2 = j by omega]
  ·rw [if_neg h1]
   by_cases h2 : 2 * j = c
   ·rw [if_pos h2, if_pos (by rw [wPart_size]; omega), if_pos (by omega), if_pos (by omega), show c / 2 = j by omega]
   ·rw [if_neg h2, wPart_get hc]
    by_cases h3 : c / 2 < j
    ·have h4 : c / 2 < j + 1 := by omega
     simp only [h3, h4, if_true]
    ·have h4 : ¬ c / 2 < j + 1 := by omega
     simp only [h3, h4, if_false]
 ·rw [Array.getElem?_eq_none (by simp [wPart_size]; omega), Array.getElem?_eq_none (by rw [wPart_size]; omega)]
theorem infoWide : (Tryz.prog.info? 40).map (fun i => (i.zero, i.size, i.bytes)) = some (some (.agg #[.bool false, .string ⟨#[]⟩]), 2, 24) := by kernel_rfl
theorem make_wide (n : Nat) (hn : n ≤ 1000) (F : Nat → Int) (W : World) : (Instr.makeSlice 35 (.int .i64 (n : Int)) (.int .i64 (n : Int))).run Tryz.prog W = .ok (.slice (some ⟨W.heap.size, 0, none⟩) n n) (W.alloc (.cells (wPart F n 0) 40)) := by
 obtain ⟨i0, hi, hz, h1, h2⟩ := info_parts infoWide
 have := run_make (P := Tryz.prog) W 35 40 i0 (.agg #[.bool false, .string ⟨#[]⟩]) Tryz.underlying35 hi hz .i64 .i64 (n : Int) (n : Int) (by omega) (by omega) (by rw [h2]; omega) (by omega)
 simp only [Int.toNat_natCast, h1] at this
 rw [this]
 have hz : madeCells (Value.agg #[.bool false, .string ⟨#[]⟩]).cells (n * 2) = wPart F n 0 := by
  have hc : (Value.agg #[.bool false, .string ⟨#[]⟩]).cells = #[.bool false, .string ⟨#[]⟩] := rfl
  rw [hc]
  apply Array.ext_getElem?
  intro c
  by_cases h : c < 2 * n
  ·rw [wPart_get h, if_neg (by omega)]
   unfold madeCells
   rw [Array.getElem?_map, Array.getElem?_range, if_pos (by omega)]
   rcases (show c % 2 = 0 ∨ c % 2 = 1 by omega) with h3 | h3
   ·simp [h3]
   ·simp [h3]
  ·rw [Array.getElem?_eq_none (by rw [size_madeCells]; omega), Array.getElem?_eq_none (by rw [wPart_size]; omega)]
 rw [hz]
theorem okTo_dist {chain : List Nat} {k : Nat} (h : okTo chain k = true) {i q : Nat} (hi : i < k) (hq : chain[i]? = some q) : q ∉ chain.take i := by
 unfold okTo at h
 rw [List.all_eq_true] at h
 have := h i (List.mem_range.2 hi)
 rw [hq] at this
 simp only [Option.all_some, Bool.and_eq_true, Bool.not_eq_true'] at this
 intro hm
 have h2 := (hasB_iff (chain.take i) q).2 hm
 rw [h2] at this
 cases this.2
theorem sys_modl {N : Int} {chain : List Nat} {sp lv : Nat} {s : Bool} (hv : validB N chain sp = true) (hp : placeB chain sp (lv : Int) s = true) (hA : AllP (modl chain sp lv s)) : SysP (modl chain sp lv s) := by
 obtain ⟨l1, l2⟩ := validB_len hv
 obtain ⟨k, hk, k1, k2⟩ := levB_nat hp
 obtain rfl : lv = k := by omega
 have hml := modl_length chain sp lv s k2
 have hv2 := hv
 unfold validB at hv2
 simp only [Bool.and_eq_true] at hv2
 refine ⟨by omega, by rw [hml]; cases s <;> simp <;> omega, fun i hi p hpi => ?_⟩
 have hm := List.mem_of_getElem? hpi
 obtain ⟨q1, q2⟩ := modl_ok2 hv hp p hm
 by_cases h : i < lv
 ·have e1 : chain[i]? = some p := by
   unfold modl at hpi
   rwa [List.getElem?_append_left (by rw [List.length_take]; omega), List.getElem?_take, if_pos h] at hpi
  have e2 : (modl chain sp lv s).take i = chain.take i := by
   unfold modl
   rw [List.take_append_of_le_length (by rw [List.length_take]; omega), List.take_take, Nat.min_eq_left (by omega)]
  have hmb := okTo_get hv2.2 i p (by omega) e1
  refine ⟨?_, q2, ?_, hA p hm⟩
  ·unfold modB at hmb
   simp only [Bool.and_eq_true, decide_eq_true_eq] at hmb
   exact hmb.2
  ·rw [e2]; exact okTo_dist hv2.2 (by omega) e1
 ·cases s with
  | false => simp at hml; omega
  | true =>
   have hil : i = lv := by simp at hml; omega
   subst hil
   have e1 : p = sp := by
    unfold modl at hpi
    rw [List.getElem?_append_right (by rw [List.length_take]; omega), List.length_take, Nat.min_eq_left k2, Nat.sub_self] at hpi
    simp at hpi
    exact hpi.symm
   subst e1
   have e2 : (modl chain p i true).take i = chain.take i := by
    unfold modl
    rw [List.take_append_of_le_length (by rw [List.length_take]; omega), List.take_take, Nat.min_eq_left (by omega)]
   have h1 : p ≠ 0 := by omega
   have h2 := hv2.1.2.2
   unfold spB at h2
   simp [h1] at h2
   refine ⟨?_, q2, ?_, hA p hm⟩
   ·have := h2.1
    unfold modB at this
    simp only [Bool.and_eq_true, decide_eq_true_eq] at this
    exact this.2
   ·rw [e2]
    intro hm2
    have := (hasB_iff chain p).2 (List.mem_of_mem_take hm2)
    rw [h2.2] at this
    cases this
def WidesPost (ok : Bool) (n : Nat) (F : Nat → Int) (w : World) (e : Ending) (w' : World) : Prop :=
 (if ok then ∃ g, e = .returned (.tuple #[.slice (some ⟨g, 0, none⟩) n n, .int .i64 0]) ∧ w.heap.size ≤ g ∧ w'.heap[g]? = some (.cells (wArr F n) 40)
  else e = .returned (.tuple #[.slice none 0 0, .int .i64 2])) ∧ Below w.heap.size w w'
theorem reads_keep {W W' : World} {B B' : Nat} {v : Value} {xs : List Value} (h : W.reads B v xs) (hB : B ≤ B') (hk : ∀ b, b < B → W'.heap[b]? = W.heap[b]?) : W'.reads B' v xs := by
 obtain ⟨a, cap, hv, hn, hz, hmx, hc⟩ := h
 refine ⟨a, cap, hv, hn, hz, hmx, fun j u hj => ?_⟩
 obtain ⟨b, off, ha, hb, hcell⟩ := hc j u hj
 exact ⟨b, off, ha, Nat.lt_of_lt_of_le hb hB, (World.cell?_of_block (a := ⟨b, off + j, none⟩) (hk b hb)).trans hcell⟩
theorem Wides_any (N pr pw wt er : Int) (cv : Value) (chain : List Nat) (sp : Nat) (la : Int) (sa : Bool) (av : Value) (xs : List (List Nat)) (w : World) (hr : w.reads w.heap.size cv (chain.map u32V)) (hrow : w.rows u32V w.heap.size av xs) (ok : Bool) (hok : ok = true ↔ checkB N chain sp la sa xs = true ∧ AllP (modl chain sp la.toNat sa)) :
  Calls Tryz.prog 7 #[.agg #[.int .i64 N, .int .u32 pr, .int .i64 pw, cv, .int .u32 (sp : Int), .int .i64 wt, .int .u32 er], .agg #[.int .i64 la, .bool sa, av]] w (WidesPost ok N.toNat (wC (modl chain sp la.toNat sa) xs) w) := by
 obtain ⟨W0, hW0⟩ : ∃ W0, W0 = ((((w.alloc (.cells #[.int .i64 N, .int .u32 pr, .int .i64 pw, cv, .int .u32 (sp : Int), .int .i64 wt, .int .u32 er] 25)).alloc (.cells #[.int .i64 la, .bool sa, av] 28)).alloc (.cells #[.slice none 0 0] 35)).alloc (.cells #[.int .i64 0] 36)) := ⟨_, rfl⟩
 have hB0 : Below w.heap.size w W0 := by rw [hW0]; exact ((((Below.refl _ w).alloc (Nat.le_refl _) _).alloc (by simp) _).alloc (by first | (simp; done) | (simp; omega)) _).alloc (by first | (simp; done) | (simp; omega)) _
 have hp0 : W0.heap[w.heap.size]? = some (.cells #[.int .i64 N, .int .u32 pr, .int .i64 pw, cv, .int .u32 (sp : Int), .int .i64 wt, .int .u32 er] 25) := by
  rw [hW0, Below.heap_alloc _ _ _ (by first | (simp; done) | (simp; omega)), Below.heap_alloc _ _ _ (by first | (simp; done) | (simp; omega)), Below.heap_alloc _ _ _ (by simp)]; exact alloc_last _ _ rfl
 have ha0 : W0.heap[w.heap.size + 1]? = some (.cells #[.int .i64 la, .bool sa, av] 28) := by
  rw [hW0, Below.heap_alloc _ _ _ (by first | (simp; done) | (simp; omega)), Below.heap_alloc _ _ _ (by simp)]; exact alloc_last _ _ (by simp)
 have hrc0 : W0.heap[w.heap.size + 1 + 1]? = some (.cells #[.slice none 0 0] 35) := by
  rw [hW0, Below.heap_alloc _ _ _ (by simp)]; exact alloc_last _ _ (by simp)
 have hc0 : W0.heap[w.heap.size + 1 + 1 + 1]? = some (.cells #[.int .i64 0] 36) := by
  rw [hW0]; exact alloc_last _ _ (by simp)
 have hz0 := lt_of_heap hc0
 have hr0 := (hr.below hB0).mono hB0.size
 have hrow0 := (hrow.below hB0).mono hB0.size
 have HCH := Lib.hid (checkE N pr pw wt er cv chain sp la sa av xs W0 hr0 hrow0)
 obtain ⟨aa, ac, rfl, hac, ham, hsh⟩ := hrow0.shape
 obtain ⟨pa, pc, rfl, -⟩ := reads_u32 hr0
 have HSH := Lib.hid hsh
 have HR0 := Lib.hid hr0
 have HROW0 := Lib.hid hrow0
 have HP0 := Lib.hid hp0
 have HA0 := Lib.hid ha0
 have HRC0 := Lib.hid hrc0
 have HC0 := Lib.hid hc0
 have HOK := Lib.hid hok
 have HW0 := Lib.hid hW0
 have HB0 := Lib.hid hB0
 obtain ⟨HPOST, hpost⟩ : ∃ R, R = WidesPost ok N.toNat (wC (modl chain sp la.toNat sa) xs) w := ⟨_, rfl⟩
 rw [← hpost]
 have HP := Lib.hid hpost
 clear hr hrow hr0 hrow0 hsh hok hW0 hB0 hpost
 have r0 : W0.cell? ⟨w.heap.size + 1 + 1, 0, none⟩ = some (.slice none 0 0) := by simp [World.cell?, hrc0]
 have r1 : W0.frozen? ⟨w.heap.size + 1 + 1, 0, none⟩ = false := by simp [World.frozen?, hrc0]
 have s0 : W0.cell? ⟨w.heap.size + 1 + 1 + 1, 0, none⟩ = some (.int .i64 0) := by simp [World.cell?, hc0]
 have s1 : W0.frozen? ⟨w.heap.size + 1 + 1 + 1, 0, none⟩ = false := by simp [World.frozen?, hc0]
 obtain ⟨c0, c1, c2, c3, c4, c5, c6⟩ := par_cells hp0
 obtain ⟨k0, k1, k2, -, -, -⟩ := elem_cells ha0
 clear hp0 ha0 hrc0 hc0
 unfold ErrPost errI at HCH
 obtain ⟨ck, hck⟩ : ∃ c, c = checkB N chain sp la sa xs := ⟨_, rfl⟩
 rw [← hck] at HCH
 have HCK := Lib.hid hck
 clear hck
 refine (callsIn_wide (n := 5)).1 ?_
 refine callsIn_of_wp_marks Tryz.func7 rfl trivial ?_ rfl
 simp only [Tryz.ntmps7, List.size_toArray, List.length_cons, List.length_nil, Nat.reduceAdd, Nat.reduceSub, Array.replicate_succ, Array.replicate_zero, List.push_toArray, List.append_toArray, List.nil_append, List.cons_append]
 gi_upto_region 1 with (fail)
 rw [← HW0.out]
 cases ck with
 | false =>
  obtain rfl : ok = false := by
   cases h : ok
   ·rfl
   ·have := (HOK.out.1 h).1
    rw [← HCK.out] at this; cases this
  gi_wp2_with fail
  refine ⟨trivial, (callsIn_wide.2 HCH.out).mono ?_⟩
  rintro e w1 ⟨rfl, hb1⟩
  have g1 := hold_heap HRC0.out hb1
  have g2 := hold_heap HC0.out hb1
  clear c0 c1 c2 c3 c4 c5 c6 k0 k1 k2 r0 r1 s0 s1
  have r0 : w1.cell? ⟨w.heap.size + 1 + 1, 0, none⟩ = some (.slice none 0 0) := by simp [World.cell?, g1]
  have r1 : w1.frozen? ⟨w.heap.size + 1 + 1, 0, none⟩ = false := by simp [World.frozen?, g1]
  have s0 : w1.cell? ⟨w.heap.size + 1 + 1 + 1, 0, none⟩ = some (.int .i64 0) := by simp [World.cell?, g2]
  have s1 : w1.frozen? ⟨w.heap.size + 1 + 1 + 1, 0, none⟩ = false := by simp [World.frozen?, g2]
  gi_wp2
  rw [HP.out]
  refine postM_ret (v := .tuple #[.slice none 0 0, .int .i64 2]) ?_ rfl ⟨rfl, ?_⟩
  ·simp [results, Tryz.results7, go_sem, g1, g2, World.cell?, World.setCell, Array.getElem?_modify]
  ·exact ((below_via HB0.out hb1).setCell (by simp; omega) _).setCell (by simp; omega) _
 | true =>
  obtain ⟨n, lv, rfl, rfl, i1, i2, i3, i4, i5, i6, i7⟩ := checkB_elt HCK.out.symm
  gi_wp2_with fail
  refine ⟨trivial, (callsIn_wide.2 HCH.out).mono ?_⟩
  rintro e w1 ⟨rfl, hb1⟩
  gi_upto_region 4 with (fail)
  obtain ⟨WL, hWL⟩ : ∃ W, W = w1.alloc (.cells #[.slice none 0 0] 23) := ⟨_, rfl⟩
  rw [← hWL]
  have hbL : Below w1.heap.size w1 WL := by rw [hWL]; exact (Below.refl _ _).alloc (Nat.le_refl _) _
  have hgL : WL.heap[w1.heap.size]? = some (.cells #[.slice none 0 0] 23) := by rw [hWL]; exact heap_alloc_new w1 _
  have HSZL : Hid (WL.heap.size = w1.heap.size + 1) := by show _ = _; rw [hWL]; simp
  have hbL0 : Below W0.heap.size W0 WL := below_via hb1 hbL
  have hpL := hold_heap HP0.out hbL0
  have haL := hold_heap HA0.out hbL0
  clear c0 c1 c2 c3 c4 c5 c6 k0 k1 k2 r0 r1 s0 s1 hWL
  obtain ⟨k0, k1, k2, -, -, -⟩ := elem_cells haL
  gi_wp2_with fail
  refine ⟨trivial, (moduli_in _ _ _ _ _).mono ?_⟩
  rintro e w2 ⟨rfl, rfl⟩
  gi_wp2_with fail
  obtain ⟨W2, hW2⟩ : ∃ W2, W2 = ((WL.alloc (.cells #[.pointer (some ⟨w.heap.size, 0, none⟩)] 52)).alloc (.cells #[.int .i64 (lv : Int)] 3)).alloc (.cells #[.bool sa] 4) := ⟨_, rfl⟩
  have hB2L : Below WL.heap.size WL W2 := by rw [hW2]; exact (((Below.refl _ WL).alloc (Nat.le_refl _) _).alloc (by simp) _).alloc (by simp; omega) _
  have m0 : W2.heap[WL.heap.size]? = some (.cells #[.pointer (some ⟨w.heap.size, 0, none⟩)] 52) := by
   rw [hW2, Below.heap_alloc _ _ _ (by simp; omega), Below.heap_alloc _ _ _ (by simp)]; exact alloc_last _ _ rfl
  have m1 : W2.heap[WL.heap.size + 1]? = some (.cells #[.int .i64 (lv : Int)] 3) := by
   rw [hW2, Below.heap_alloc _ _ _ (by simp)]; exact alloc_last _ _ (by simp)
  have m2 : W2.heap[WL.heap.size + 2]? = some (.cells #[.bool sa] 4) := by
   rw [hW2]; exact alloc_last _ _ (by simp)
  have hz2 := lt_of_heap m2
  have hszL := HSZL.out
  have hB20 : Below W0.heap.size W0 W2 := below_via hbL0 hB2L
  have hB2 : Below w.heap.size w W2 := below_via HB0.out hB20
  have hp2 := hold_heap HP0.out hB20
  have ha2 := hold_heap HA0.out hB20
  have hl2 := hold_heap hgL hB2L
  have hrc2 := hold_heap HRC0.out hB20
  have hcc2 := hold_heap HC0.out hB20
  have hr2 := HR0.out.below hB20
  have hs1 := hb1.size
  have hs2 := hB20.size
  rw [← hW2]
  clear hW2 k0 k1 k2
  have hSC := hr2.blk (by simp; omega)
  have hlbs : w1.heap.size < W2.heap.size := lt_of_heap hl2
  have hml : (modl chain sp lv sa).length ≤ 25 := by rw [modl_length _ _ _ _ i4]; cases sa <;> simp <;> omega
  obtain ⟨i0, hi0, hiz, hiz1, hizb⟩ := info_parts infoU32
  have hmax : ∀ x, modAt (modl chain sp lv sa) x < 4294967296 := fun x => by have := i6 _ (List.getElem_mem x.isLt); show (modl chain sp lv sa)[x.val] < _; omega
  have HST := moduli_stops 4 (by omega) WL.heap.size w.heap.size (fun b => b < W2.heap.size ∧ b ≠ w1.heap.size) (n : Int) pr pw wt er _ chain sp lv sa W0.heap.size i4 (by omega) W2 (fun _ h => h.1) ⟨by omega, by omega⟩ ⟨by omega, by omega⟩ ⟨by omega, by omega⟩ ⟨by omega, by omega⟩
    (fun a n c b off h1 h2 => by have := hSC a n c b off h1 h2; omega) m0 m1 m2 hp2 hr2
  have HI0 : WideI w W2 w1.heap.size (modAt (modl chain sp lv sa)) [] W2 := ⟨⟨_, hl2, World.owns_nil _ _ _ _⟩, by simp, KeepP.refl _, hB2, Nat.le_refl _⟩
  have HOX : OwnFrom W2.heap.size (fun (pre : List (Fin (modl chain sp lv sa).length)) W => (∃ x ∈ pre, ¬ PrimeP (modAt (modl chain sp lv sa) x)) ∧ W.heap[w.heap.size + 1 + 1]? = some (.cells #[.slice none 0 0] 35) ∧ W.heap[w.heap.size + 1 + 1 + 1]? = some (.cells #[.int .i64 2] 36) ∧ Below w.heap.size w W) :=
   (ownFrom_pure _ _).and ((ownFrom_cells _ _ (fun _ => w.heap.size + 1 + 1) (fun _ => #[.slice none 0 0]) 35 (0, 0) (fun _ _ h => h) (fun _ _ h => h)).and ((ownFrom_cells _ _ (fun _ => w.heap.size + 1 + 1 + 1) (fun _ => #[.int .i64 2]) 36 (0, 0) (fun _ _ h => h) (fun _ _ h => h)).and (ownFrom_below (Nat.le_refl _) hB2.size)))
  have HOI := wideI_own w W2 w1.heap.size hlbs hB2.size (modAt (modl chain sp lv sa))
  refine wpIn_range_tmp (n := 5) (by omega) ?hg ?eg (S := fun b => b < W2.heap.size ∧ b ≠ w1.heap.size) (w := W2) (fun _ h => h.1) HST ?hps
   (WideI w W2 w1.heap.size (modAt (modl chain sp lv sa)))
   (fun pre W => (∃ x ∈ pre, ¬ PrimeP (modAt (modl chain sp lv sa) x)) ∧ W.heap[w.heap.size + 1 + 1]? = some (.cells #[.slice none 0 0] 35) ∧ W.heap[w.heap.size + 1 + 1 + 1]? = some (.cells #[.int .i64 2] 36) ∧ Below w.heap.size w W)
   HOI HOX HI0
   (fun x => [(25, .int .i64 (x.val : Int)), (26, .int .u32 (modAt (modl chain sp lv sa) x : Int)), (8, .int .u32 (modAt (modl chain sp lv sa) x : Int))])
   ?assign ?body ?done ?stop
  case hg => rfl
  case eg => exact enters_of Tryz.func40 (by kernel_rfl) rfl
  case hps => intro x; rfl
  case assign =>
   intro l pre x W K hK
   unfold ModEnc
   gi_wp2
  case stop =>
   intro D pre W hD hpre hI hdf
   obtain ⟨⟨x, hx, hxp⟩, h1, h2, h3⟩ := hI
   obtain rfl : ok = false := by
    cases h : ok
    ·rfl
    ·exact absurd ((HOK.out.1 h).2 _ (List.getElem_mem x.isLt)) hxp
   have hD1 : w.heap.size + 1 + 1 ≠ D := by have := hB2.size; omega
   have hD2 : w.heap.size + 1 + 1 + 1 ≠ D := by have := hB2.size; omega
   rw [HP.out]
   refine postM_mark (v := .tuple #[.slice none 0 0, .int .i64 2]) hdf ?_ rfl ⟨rfl, ?_⟩
   ·have hh1 := heap_putObj_ne (w := W) (Obj.deferred none) hD1
    have hh2 := heap_putObj_ne (w := W) (Obj.deferred none) hD2
    have y1 : (W.putObj D (.deferred none)).cell? ⟨w.heap.size + 1 + 1, 0, none⟩ = some (.slice none 0 0) := by simp [World.cell?, hh1, h1]
    have y2 : (W.putObj D (.deferred none)).cell? ⟨w.heap.size + 1 + 1 + 1, 0, none⟩ = some (.int .i64 2) := by simp [World.cell?, hh2, h2]
    simp [results, Tryz.results7, go_sem, y1, y2]
   ·exact h3.trans (belowK_b (w := w) (Nat.le_refl _) _ D _ _ (by have := hB2.size; omega) hdf rfl rfl)
  case body =>
   intro l pre x W hl hI hN
   simp only [List.foldl_cons, List.foldl_nil, List.setIfInBounds_toArray, List.set_cons_succ, List.set_cons_zero]
   obtain ⟨⟨sv, h1, h2⟩, h3, h4, h5, h6⟩ := hI
   obtain ⟨q, hq⟩ : ∃ q, q = modAt (modl chain sp lv sa) x := ⟨_, rfl⟩
   have hqm := hmax x
   rw [← hq] at hqm
   obtain ⟨pr0, hpr⟩ := em_bool (PrimeP q)
   have HPRM := Lib.hid (Prime_any q hqm pr0 hpr W)
   have HPR := Lib.hid hpr
   have HQ := Lib.hid hq
   have hpl : pre.length ≤ 25 := by omega
   rw [← hq]
   clear hpr hq
   gi_wp2_with fail
   refine ⟨trivial, CallsIn.inRound l ((callsIn_wide.2 HPRM.out).mono ?_)⟩
   rintro e W3 ⟨rfl, hb3⟩
   have hz3 := hb3.size
   cases pr0 with
   | false =>
    have g1 : W3.heap[w.heap.size + 1 + 1]? = some (.cells #[.slice none 0 0] 35) := hold_heap ((h4 _ ⟨by omega, by omega⟩).trans hrc2) hb3
    have g2 : W3.heap[w.heap.size + 1 + 1 + 1]? = some (.cells #[.int .i64 0] 36) := hold_heap ((h4 _ ⟨by omega, by omega⟩).trans hcc2) hb3
    have y1 : W3.cell? ⟨w.heap.size + 1 + 1, 0, none⟩ = some (.slice none 0 0) := by simp [World.cell?, g1]
    have y2 : W3.cell? ⟨w.heap.size + 1 + 1 + 1, 0, none⟩ = some (.int .i64 0) := by simp [World.cell?, g2]
    have y3 : W3.frozen? ⟨w.heap.size + 1 + 1, 0, none⟩ = false := by simp [World.frozen?, g1]
    have y4 : W3.frozen? ⟨w.heap.size + 1 + 1 + 1, 0, none⟩ = false := by simp [World.frozen?, g2]
    gi_wp2
    refine ⟨keepsFrom_setCell (keepsFrom_setCell (keepsFrom_below hb3) _ _) _ _, rfl, ⟨x, by simp, fun h => ?_⟩, ?_, ?_, ?_⟩
    ·rw [← HQ.out] at h
     have := HPR.out.2 h
     cases this
    ·simp [World.setCell, Array.getElem?_modify, g1]
    ·simp [World.setCell, Array.getElem?_modify, g2]
    ·exact ((below_via h5 hb3).setCell (by simp; omega) _).setCell (by simp; omega) _
   | true =>
    have g1 : W3.heap[w1.heap.size]? = some (.cells #[sv] 23) := hold_heap h1 hb3
    have y1 : W3.cell? ⟨w1.heap.size, 0, none⟩ = some sv := by simp [World.cell?, g1]
    have hown3 := h2.below hb3
    have hB3 := below_via h5 hb3
    gi_wp2_with (gi_at_builtin; refine wpListIn_append1 W3 rfl (.tmp 30) (.tmp 32) 23 rfl W2.heap.size 22 i0 (.int .u32 0) 4 Tryz.underlying23 hi0 hiz hiz1 hizb rfl sv pre.length _ rfl hown3 (.int .u32 (q : Int)) W3.heap.size rfl rfl rfl (by unfold maxLen; omega) (by omega) (by omega) ?_; intro v4 W4 hown4 hg4a hg4 hz4; obtain ⟨g4, cap4, rfl⟩ := hown4.succ; have h14 : W4.heap[w1.heap.size]? = some (.cells #[sv] 23) := (hg4.block _ (by omega) (by intro e; have := hown3.lt _ e.symm; omega)).trans g1; have e24 : W4.cell? ⟨w1.heap.size, 0, none⟩ = some sv := (by simp [World.cell?, h14]); have f24 : W4.frozen? ⟨w1.heap.size, 0, none⟩ = false := (by simp only [World.frozen?, h14]; rfl))
    have hold : ∀ b, b < W.heap.size → W3.heap[b]? = W.heap[b]? := fun b hb => hb3.block b hb
    have hk4 : ∀ (g : Nat), g < W3.heap.size → (∀ k, sv.ownBlock = some k → g ≠ k) → W4.heap[g]? = W3.heap[g]? := fun g hg hne => hg4.block g hg (fun e => hne g e.symm rfl)
    have hown5 := hown4.setCell (a := ⟨w1.heap.size, 0, none⟩) (by simp; omega) (.slice (some ⟨g4, 0, none⟩) (pre.length + 1) cap4)
    have hB4 : Below w.heap.size w W4 := hB3.grown hg4 hB3.size (fun k e => by have := hown3.lt _ e; have := hB2.size; omega)
    have hkf4 : KeepsFrom W2.heap.size W W4 := ⟨by omega, fun k o hk1 hk2 ho => by
     rw [hk4 k (by have := lt_of_heap hk2; omega) (fun k' hk' e => by
      subst e
      rcases hown3.2 with ⟨h, _⟩ | ⟨g', cap', cur, fz, h, _, hgg, _⟩
      ·rw [h] at hk'; simp [Value.ownBlock] at hk'
      ·rw [h] at hk'; simp [Value.ownBlock] at hk'
       subst hk'
       rw [hold _ (lt_of_heap hk2), hk2] at hgg
       injection hgg with hgg
       subst hgg
       cases ho), hold k (lt_of_heap hk2)]; exact hk2⟩
    refine ⟨keepsFrom_setCell hkf4 _ _, ?_, ⟨⟨.slice (some ⟨g4, 0, none⟩) (pre.length + 1) cap4, ?_, ?_⟩, ?_, ?_, hB4.setCell (by simp; omega) _, by simp; omega⟩⟩
    ·exact KeepP.setCell (fun b hb => (hk4 b (by have := hb.1; omega) (fun k hk' e => by have := hown3.lt _ hk'; have := hb.1; omega)).trans (hold b (by have := hb.1; omega))) (by simp) _
    ·simp [World.setCell, Array.getElem?_modify, h14]
    ·rw [HQ.out] at hown5
     simpa [u32V] using hown5
    ·intro y hy
     rcases List.mem_append.1 hy with hy | hy
     ·exact h3 y hy
     ·obtain rfl := List.mem_singleton.1 hy
      rw [← HQ.out]; exact HPR.out.1 (by first | rfl | trivial)
    ·exact KeepP.setCell (fun b hb => (hk4 b (by have := hb.1; omega) (fun k hk' e => by have := hown3.lt _ hk'; have := hb.1; omega)).trans ((hold b (by have := hb.1; omega)).trans (h4 b hb))) (by simp) _
  case done =>
   intro D W hD hI hdf
   obtain ⟨⟨sv, h1, h2⟩, h3, h4, h5, h6⟩ := hI
   obtain ⟨ml, hmlE⟩ : ∃ ml, ml = modl chain sp lv sa := ⟨_, rfl⟩
   have hA : AllP (modl chain sp lv sa) := fun q hq => by
    obtain ⟨i, hi, rfl⟩ := List.getElem_of_mem hq
    exact h3 ⟨i, hi⟩ (List.mem_finRange _)
   obtain rfl : ok = true := HOK.out.2 ⟨HCK.out.symm, hA⟩
   have hsys : SysP ml := by
    rw [hmlE]
    have hck := HCK.out.symm
    unfold checkB preB at hck
    simp only [Bool.and_eq_true] at hck
    exact sys_modl hck.1.1 hck.1.2 hA
   have hmap : (List.finRange (modl chain sp lv sa).length).map (modAt (modl chain sp lv sa)) = ml := by
    rw [hmlE]
    have := finRange_map (modl chain sp lv sa) (fun q => q)
    simpa using this
   rw [hmap, List.length_finRange, ← hmlE] at h2
   rw [← hmlE] at i7
   have HELT := Lib.hid i7
   have HSYS := Lib.hid hsys
   obtain ⟨L, hL⟩ : ∃ L, L = ml.length := ⟨_, rfl⟩
   have HL := Lib.hid hL
   have hL25 : L ≤ 25 := by rw [hL, hmlE]; exact hml
   have hL1 : 1 ≤ L := by rw [hL]; exact hsys.1
   have hxl : xs.length = L := by rw [hL]; exact i7.1
   rw [← hL] at h2
   have hNEW := New_any ml sv W h2.reads (fun p hp => by have := (hsys.sep.mem hp).2.2; omega) true ⟨fun _ => hsys, fun _ => rfl⟩
   have HNEW := Lib.hid hNEW
   have HPK : Hid (HPOST = WidesPost true n (wC ml xs) w) := by show _ = _; rw [HP.out, hmlE]; rfl
   have hpW : W.heap[w.heap.size]? = some (.cells #[.int .i64 (n : Int), .int .u32 pr, .int .i64 pw, .slice pa chain.length pc, .int .u32 (sp : Int), .int .i64 wt, .int .u32 er] 25) := (h4 _ ⟨by omega, by omega⟩).trans hp2
   have haW : W.heap[w.heap.size + 1]? = some (.cells #[.int .i64 (lv : Int), .bool sa, .slice aa xs.length ac] 28) := (h4 _ ⟨by omega, by omega⟩).trans ha2
   have hrcW : W.heap[w.heap.size + 1 + 1]? = some (.cells #[.slice none 0 0] 35) := (h4 _ ⟨by omega, by omega⟩).trans hrc2
   have hccW : W.heap[w.heap.size + 1 + 1 + 1]? = some (.cells #[.int .i64 0] 36) := (h4 _ ⟨by omega, by omega⟩).trans hcc2
   have HXW : Hid (∀ (j : Nat) (r : List Nat), xs[j]? = some r → ∃ b off b2 c2, aa = some ⟨b, off, none⟩ ∧ b < W.heap.size ∧ W.cell? ⟨b, off + j, none⟩ = some (.slice b2 r.length c2) ∧ W.reads W.heap.size (.slice b2 r.length c2) (r.map u32V)) := fun j r hj => by
    obtain ⟨b, off, b2, c2, e1, e2, e3, e4⟩ := HSH.out j r hj
    have hkk : ∀ g, g < W0.heap.size → W.heap[g]? = W0.heap[g]? := fun g hg => (h4 g ⟨by omega, by omega⟩).trans (hB20.block g hg)
    exact ⟨b, off, b2, c2, e1, by omega, (World.cell?_of_block (a := ⟨b, off + j, none⟩) (hkk b e2)).trans e3, reads_keep e4 (by omega) hkk⟩
   have y1 : W.cell? ⟨w1.heap.size, 0, none⟩ = some sv := by simp [World.cell?, h1]
   have HPW := Lib.hid hpW
   have HAW := Lib.hid haW
   have HRCW := Lib.hid hrcW
   have HCCW := Lib.hid hccW
   have HLW := Lib.hid h1
   have HDF := Lib.hid hdf
   have H5 := Lib.hid h5
   have hDl := lt_of_heap hdf
   have hs6 := H5.out.size
   have hlW : w1.heap.size < W.heap.size := lt_of_heap h1
   obtain ⟨sa', sc', rfl⟩ := reads_len h2.reads
   rw [List.length_map, ← hL] at y1 HLW HNEW
   clear h1 h2 h3 h4 h5 h6 hdf hpW haW hrcW hccW hNEW hA hsys hmap hL hmlE i6 i7 HST HI0 HOX HOI hmax hSC m0 m1 m2 hp2 ha2 hl2 hrc2 hcc2 hr2 hB20 hB2L hbL hgL hbL0 hpL haL HCH hB2
   gi_wp2_with fail
   refine ⟨trivial, (callsIn_wide.2 HNEW.out).mono ?_⟩
   rintro e w5 ⟨hb5, he5, hs5⟩
   subst he5
   obtain ⟨b, hbd⟩ : ∃ b, b = W.heap.size := ⟨_, rfl⟩
   rw [← hbd] at hs5 ⊢
   have HS5 := Lib.hid hs5
   have HB5 := Lib.hid hb5
   have hz5 := hb5.size
   have c0 : w5.cell? ⟨w.heap.size, 0, none⟩ = some (.int .i64 (n : Int)) := (par_cells (hold_heap HPW.out hb5)).1
   have y2 : w5.cell? ⟨w1.heap.size, 0, none⟩ = some (.slice sa' L sc') := by
    have := hold_heap HLW.out hb5
    simp [World.cell?, this]
   have hmkW := make_wide n (by omega) (wC ml xs)
   have hmkL := make_u32 L (by omega)
   clear y1 hs5 hbd HNEW hb5
   gi_upto_region 13 with (fail)
   obtain ⟨oW, hoW⟩ : ∃ o, o = w5.heap.size := ⟨_, rfl⟩
   have hb6 : Below w5.heap.size w5 (w5.alloc (.cells (wPart (wC ml xs) n 0) 40)) := (Below.refl _ _).alloc (Nat.le_refl _) _
   have hg6 : (w5.alloc (.cells (wPart (wC ml xs) n 0) 40)).heap[oW]? = some (.cells (wPart (wC ml xs) n 0) 40) := by rw [hoW]; exact heap_alloc_new w5 _
   rw [← hoW]
   generalize w5.alloc (.cells (wPart (wC ml xs) n 0) 40) = w6 at hb6 hg6 ⊢
   have hz6 := lt_of_heap hg6
   have y3 : w6.cell? ⟨w1.heap.size, 0, none⟩ = some (.slice sa' L sc') := (hb6.cell (p := ⟨w1.heap.size, 0, none⟩) (by show w1.heap.size < _; omega)).trans y2
   clear c0 y2 hmkW
   gi_upto_region 14 with (fail)
   obtain ⟨cB, hcB⟩ : ∃ o, o = w6.heap.size := ⟨_, rfl⟩
   have hb7 : Below w6.heap.size w6 (w6.alloc (.cells (zrow L) 22)) := (Below.refl _ _).alloc (Nat.le_refl _) _
   have hg7 : (w6.alloc (.cells (zrow L) 22)).heap[cB]? = some (.cells (zrow L) 22) := by rw [hcB]; exact heap_alloc_new w6 _
   rw [← hcB]
   generalize w6.alloc (.cells (zrow L) 22) = w7 at hb7 hg7 ⊢
   rw [nrow_zero] at hg7
   have hoc : oW < cB := by omega
   have HB7 := Lib.hid (below_via hb6 hb7)
   have HO7 := Lib.hid (hold_heap hg6 hb7)
   have HC7 := Lib.hid hg7
   have hoW5 : w5.heap.size ≤ oW := by omega
   clear y3 hmkL hb6 hg6 hb7 hg7 hoW hcB hz6
   gi_wp2_with fail
   gi_loopw [49] (fun iv wr => ∃ j : Nat, j ≤ n ∧ iv = .int .i64 (j : Int) ∧ Hid (Below w5.heap.size w5 wr) ∧ Hid (wr.heap[oW]? = some (.cells (wPart (wC ml xs) n j) 40)) ∧ Hid (∃ f : Nat → Nat, wr.heap[cB]? = some (.cells (nrow f L) 22))) (fun iv _ => n - (intOf iv).toNat)
   case atStart => exact ⟨0, Nat.zero_le _, rfl, HB7.out, HO7.out, ⟨_, HC7.out⟩⟩
   case round =>
    obtain ⟨j, hj, rfl, HBr, HOr, HCr⟩ := hrel
    obtain ⟨wo, rfl⟩ : ∃ x, x = wr := ⟨_, rfl⟩
    by_cases hlt : j < n
    ·have hBo := below_via HB5.out HBr.out
     obtain ⟨-, -, k2, -, -, -⟩ := elem_cells (hold_heap HAW.out hBo)
     have j1 : (j : Int) < (n : Int) := by omega
     have j2 : (0 : Int) ≤ (j : Int) := by omega
     gi_wp2_with fail
     gi_loopw [55] (fun iv wx => ∃ i : Nat, i ≤ L ∧ iv = .int .i64 (i : Int) ∧ Hid (Below w5.heap.size w5 wx) ∧ Hid (wx.heap[oW]? = some (.cells (wPart (wC ml xs) n j) 40)) ∧ Hid (∃ f : Nat → Nat, wx.heap[cB]? = some (.cells (nrow f L) 22) ∧ ∀ i', i' < i → f i' = (xs.getD i' []).getD j 0)) (fun iv _ => L - (intOf iv).toNat)
     case atStart =>
      obtain ⟨f, hf⟩ := HCr.out
      exact ⟨0, Nat.zero_le _, rfl, HBr.out, HOr.out, ⟨f, hf, fun i' h => by omega⟩⟩
     case round =>
      obtain ⟨i, hi, rfl, HBi, HOi, HCi⟩ := hrel
      obtain ⟨wi, rfl⟩ : ∃ x, x = wr := ⟨_, rfl⟩
      by_cases hil : i < L
      ·obtain ⟨rr, hrr⟩ : ∃ r, xs[i]? = some r := ⟨xs[i]'(by omega), List.getElem?_eq_getElem _⟩
       obtain ⟨hrl, -⟩ := HELT.out.2 i rr hrr
       obtain ⟨rb, ro, b2, c2, rfl, hrb, hcl, hrd⟩ := HXW.out i rr hrr
       obtain ⟨v, hv⟩ : ∃ v, rr[j]? = some v := ⟨rr[j]'(by omega), List.getElem?_eq_getElem _⟩
       rw [hrl] at hcl hrd
       obtain ⟨xa, xc, he, x1, x2, x3⟩ := reads_u32 hrd
       injection he with he1 he2 he3
       subst he1 he3
       obtain ⟨xb, xo, rfl, hxb, hxc⟩ := x3 j v hv
       rw [hrl] at x1
       have hBi := below_via HB5.out HBi.out
       have d0 : wi.cell? ⟨rb, ro + i, none⟩ = some (.slice (some ⟨xb, xo, none⟩) n c2) := (hBi.cell (p := ⟨rb, ro + i, none⟩) hrb).trans hcl
       have d1 : wi.cell? ⟨xb, xo + j, none⟩ = some (.int .u32 (v : Int)) := (hBi.cell (p := ⟨xb, xo + j, none⟩) hxb).trans hxc
       obtain ⟨f, hf, hfall⟩ := HCi.out
       have d2 : wi.cell? ⟨cB, i, none⟩ = some (.int .u32 (f i : Int)) := by rw [cell_of_row wi cB i _ _ (0, 0) hf]; exact nrow_get _ _ _ hil
       have d3 : wi.frozen? ⟨cB, i, none⟩ = false := by simp [World.frozen?, hf]
       have HC2 : Hid (∃ f : Nat → Nat, (wi.setCell ⟨cB, i, none⟩ (.int .u32 (v : Int))).heap[cB]? = some (.cells (nrow f L) 22) ∧ ∀ i', i' < i + 1 → f i' = (xs.getD i' []).getD j 0) := by
        refine ⟨fun c => if c = i then v else f c, ?_, fun i' h => ?_⟩
        ·rw [← nrow_set]; simp [World.setCell, Array.getElem?_modify, hf]
        ·by_cases e : i' = i
         ·subst e
          have g1 : xs.getD i' [] = rr := by rw [List.getD_eq_getElem?_getD, hrr]; rfl
          have g2 : rr.getD j 0 = v := by rw [List.getD_eq_getElem?_getD, hv]; rfl
          simp only [if_true, g1, g2]
         ·simp only [e, if_false]; exact hfall i' (by omega)
       have HB2 : Hid (Below w5.heap.size w5 (wi.setCell ⟨cB, i, none⟩ (.int .u32 (v : Int)))) := HBi.out.setCell (by simp; omega) _
       have HO2 : Hid ((wi.setCell ⟨cB, i, none⟩ (.int .u32 (v : Int))).heap[oW]? = some (.cells (wPart (wC ml xs) n j) 40)) := (Below.heap_setCell _ _ _ _ (by simp; omega)).trans HOi.out
       have i1' : (i : Int) < (L : Int) := by omega
       have i2' : (0 : Int) ≤ (i : Int) := by omega
       clear hrr hrl hcl hrd hv x1 x3 hxc hf hfall HCi
       gi_upto_region 21 with (fail)
       generalize wi.setCell ⟨cB, i, none⟩ (.int .u32 (v : Int)) = wn at HC2 HB2 HO2 ⊢
       clear d0 d1 d2 d3
       gi_wp2_with fail
       go_roundw
       case rel => exact ⟨i + 1, by omega, by go_num, HB2.out, HO2.out, HC2.out⟩
       case measure => simp [intOf]; omega
      ·obtain rfl : i = L := by omega
       obtain ⟨f, hf, hfall⟩ := HCi.out
       have hcol : nrow f i = ((colL xs j).map u32V).toArray := by
        unfold nrow colL
        congr 1
        apply List.ext_getElem
        ·simp [hxl]
        ·intro k h1 h2
         have hk : k < i := by simpa using h1
         have hkx : k < xs.length := by omega
         have hg : xs.getD k [] = xs[k] := by rw [List.getD_eq_getElem?_getD, List.getElem?_eq_getElem hkx]; rfl
         simp only [List.getElem_map, List.getElem_range]
         rw [hfall k hk, hg]
         rfl
       have HCN : Hid (∃ f : Nat → Nat, wi.heap[cB]? = some (.cells (nrow f i) 22)) := ⟨f, hf⟩
       rw [hcol] at hf
       have hcll : (colL xs j).length = i := by unfold colL; rw [List.length_map, hxl]
       have hrdc : wi.reads wi.heap.size (.slice (some ⟨cB, 0, none⟩) i i) ((colL xs j).map u32V) := by
        have := reads_block hf (lt_of_heap hf) i (by simp [hcll]) (by unfold maxLen; omega)
        simpa [hcll] using this
       have hJ := Join_any b ml (colL xs j) _ wi (HS5.out.below HBi.out) HSYS.out hrdc true ⟨fun _ => col_row HELT.out hlt, fun _ => rfl⟩
       rw [if_pos rfl, if_pos rfl] at hJ
       unfold FormE at hJ
       obtain ⟨jb, hjb⟩ : ∃ z, z = zN (wC ml xs j) := ⟨_, rfl⟩
       obtain ⟨jt, hjt⟩ : ∃ z, z = zT (wC ml xs j) := ⟨_, rfl⟩
       have HJ : Hid (Calls Tryz.prog 20 #[.pointer (some ⟨b, 0, none⟩), .slice (some ⟨cB, 0, none⟩) i i] wi fun e w' => e = .returned (.tuple #[.agg #[.bool jb, .string jt], .int .i64 0]) ∧ Below wi.heap.size wi w') := by rw [hjb, hjt]; exact hJ
       have HJB := Lib.hid hjb
       have HJT := Lib.hid hjt
       have HF := Lib.hid hf
       clear hf hfall hcol hcll hrdc hJ hjb hjt HCi
       gi_wp2_with fail
       refine ⟨trivial, (callsIn_wide.2 HJ.out).mono ?_⟩
       rintro e w8 ⟨rfl, hb8⟩
       have HB8 := Lib.hid (below_via HBi.out hb8)
       have hO8 := hold_heap HOi.out hb8
       have HC8 : Hid (∃ f : Nat → Nat, w8.heap[cB]? = some (.cells (nrow f i) 22)) := by
        obtain ⟨f, hf⟩ := HCN.out
        exact ⟨f, hold_heap hf hb8⟩
       have d0 : ∃ u, w8.cell? ⟨oW, j * 2, none⟩ = some u := ⟨_, by rw [cell_of_row w8 oW (j * 2) _ _ (0, 0) hO8]; exact wPart_get (by omega)⟩
       obtain ⟨u0, d0⟩ := d0
       have d1 : ∃ u, w8.cell? ⟨oW, j * 2 + 1, none⟩ = some u := ⟨_, by rw [cell_of_row w8 oW (j * 2 + 1) _ _ (0, 0) hO8]; exact wPart_get (by omega)⟩
       obtain ⟨u1, d1⟩ := d1
       have d2 : ∀ o, w8.frozen? ⟨oW, o, none⟩ = false := fun o => by simp [World.frozen?, hO8]
       have d3 := d2 (j * 2)
       have d4 := d2 (j * 2 + 1)
       have HO8 := Lib.hid hO8
       clear hb8 hO8 d2
       gi_upto_region 23 with (fail)
       have HB9 : Hid (Below w5.heap.size w5 ((w8.setCell ⟨oW, j * 2, none⟩ (.bool jb)).setCell ⟨oW, j * 2 + 1, none⟩ (.string jt))) := (HB8.out.setCell (by simp; omega) _).setCell (by simp; omega) _
       have HO9 : Hid (((w8.setCell ⟨oW, j * 2, none⟩ (.bool jb)).setCell ⟨oW, j * 2 + 1, none⟩ (.string jt)).heap[oW]? = some (.cells (wPart (wC ml xs) n (j + 1)) 40)) := by
        show _ = _
        rw [← wPart_set hlt, ← HJB.out, ← HJT.out, Nat.mul_comm 2 j]
        simp [World.setCell, Array.getElem?_modify, HO8.out]
       have HC9 : Hid (∃ f : Nat → Nat, ((w8.setCell ⟨oW, j * 2, none⟩ (.bool jb)).setCell ⟨oW, j * 2 + 1, none⟩ (.string jt)).heap[cB]? = some (.cells (nrow f i) 22)) := by
        obtain ⟨f, hf⟩ := HC8.out
        refine ⟨f, ?_⟩
        rw [Below.heap_setCell _ _ _ _ (by simp; omega), Below.heap_setCell _ _ _ _ (by simp; omega)]
        exact hf
       generalize (w8.setCell ⟨oW, j * 2, none⟩ (.bool jb)).setCell ⟨oW, j * 2 + 1, none⟩ (.string jt) = w9 at HB9 HO9 HC9 ⊢
       clear d0 d1 d3 d4
       gi_wp2_with fail
       go_roundw
       case rel => exact ⟨j + 1, by omega, by go_num, HB9.out, HO9.out, HC9.out⟩
       case measure => simp [intOf]; omega
    ·obtain rfl : j = n := by omega
     have hBo := below_via HB5.out HBr.out
     have g1 := hold_heap HRCW.out hBo
     have g2 := hold_heap HCCW.out hBo
     have hdf := HDF.out
     have hdf2 : wo.heap[D]? = some (.deferred (some [])) := hold_heap hdf hBo
     have r0 : wo.cell? ⟨w.heap.size + 1 + 1, 0, none⟩ = some (.slice none 0 0) := by simp [World.cell?, g1]
     have r1 : wo.frozen? ⟨w.heap.size + 1 + 1, 0, none⟩ = false := by simp [World.frozen?, g1]
     have s0 : wo.cell? ⟨w.heap.size + 1 + 1 + 1, 0, none⟩ = some (.int .i64 0) := by simp [World.cell?, g2]
     have s1 : wo.frozen? ⟨w.heap.size + 1 + 1 + 1, 0, none⟩ = false := by simp [World.frozen?, g2]
     have hDs : w.heap.size + 1 + 1 + 1 < D := by omega
     have hoW2 : w.heap.size ≤ oW := by have := H5.out.size; have := HB5.out.size; omega
     have hlo := lt_of_heap HOr.out
     gi_wp2
     have hDo : D ≠ oW := by omega
     obtain ⟨wz, hwz⟩ : ∃ W, W = (wo.setCell ⟨w.heap.size + 1 + 1, 0, none⟩ (.slice (some ⟨oW, 0, none⟩) j j)).setCell ⟨w.heap.size + 1 + 1 + 1, 0, none⟩ (.int .i64 0) := ⟨_, rfl⟩
     have hBz : Below w.heap.size w wz := by rw [hwz]; exact (((below_via H5.out hBo)).setCell (by simp; omega) _).setCell (by simp; omega) _
     have hz1 : wz.heap[w.heap.size + 1 + 1]? = some (.cells #[.slice (some ⟨oW, 0, none⟩) j j] 35) := by
      rw [hwz, Below.heap_setCell _ _ _ _ (by simp)]; simp [World.setCell, Array.getElem?_modify, g1]
     have hz2' : wz.heap[w.heap.size + 1 + 1 + 1]? = some (.cells #[.int .i64 0] 36) := by
      rw [hwz]; simp [World.setCell, Array.getElem?_modify, g2]
     have hz3 : wz.heap[oW]? = some (.cells (wPart (wC ml xs) j j) 40) := by
      rw [hwz, Below.heap_setCell _ _ _ _ (by simp; omega), Below.heap_setCell _ _ _ _ (by simp; omega)]; exact HOr.out
     have hz4 : wz.heap[D]? = some (.deferred (some [])) := by
      rw [hwz, Below.heap_setCell _ _ _ _ (by simp; omega), Below.heap_setCell _ _ _ _ (by simp; omega)]; exact hdf2
     rw [← hwz, HPK.out]
     refine postM_mark (v := .tuple #[.slice (some ⟨oW, 0, none⟩) j j, .int .i64 0]) hz4 ?_ rfl ⟨?_, ?_⟩
     ·have hh1 := heap_putObj_ne (w := wz) (Obj.deferred none) (show w.heap.size + 1 + 1 ≠ D by omega)
      have hh2 := heap_putObj_ne (w := wz) (Obj.deferred none) (show w.heap.size + 1 + 1 + 1 ≠ D by omega)
      have y1 : (wz.putObj D (.deferred none)).cell? ⟨w.heap.size + 1 + 1, 0, none⟩ = some (.slice (some ⟨oW, 0, none⟩) j j) := by simp [World.cell?, hh1, hz1]
      have y2 : (wz.putObj D (.deferred none)).cell? ⟨w.heap.size + 1 + 1 + 1, 0, none⟩ = some (.int .i64 0) := by simp [World.cell?, hh2, hz2']
      simp [results, Tryz.results7, go_sem, y1, y2]
     ·rw [if_pos rfl]
      exact ⟨oW, rfl, hoW2, (heap_putObj_ne (w := wz) (Obj.deferred none) (Ne.symm hDo)).trans hz3⟩
     ·exact hBz.trans (belowK_b (w := w) (Nat.le_refl _) _ D _ _ (by omega) hz4 rfl rfl)
end G
/- Walks: the norm of an element (the program's). -/
namespace G
open Go.RowKit Go.Shelf Go.BigFrame Go.WideNum
attribute [local go_sem] Oper.semAt_some
theorem abs_form {x : Int} : zT x = zT ((x.natAbs : Nat) : Int) := by unfold zT; rw [Int.natAbs_natCast]
theorem zN_nat (n : Nat) : zN (n : Int) = false := decide_eq_false (by omega)
theorem Max_z (a : Nat) (x : Int) (ha : InR (a : Int)) (hx : InR x) (w : World) :
  Calls Tryz.prog 21 #[.agg #[.bool false, .string (zT (a : Int))], .agg #[.bool false, .string (zT x)]] w fun e w' => e = .returned (.tuple #[.agg #[.bool false, .string (zT ((max a x.natAbs : Nat) : Int))], .int .i64 0]) ∧ Below w.heap.size w w' := by
 have hx' : InR ((x.natAbs : Nat) : Int) := by unfold InR at *; rw [Int.natAbs_natCast]; exact hx
 rw [abs_form (x := x)]
 have h := Max_any false (zT (a : Int)) false (zT ((x.natAbs : Nat) : Int)) (z_size ha) (z_size hx') w
 have e : maxF false (zT (a : Int)) false (zT ((x.natAbs : Nat) : Int)) = (false, zT ((max a x.natAbs : Nat) : Int), 0) := by
  have v1 := z_valid ha
  have v2 := z_valid hx'
  rw [zN_nat] at v1 v2
  unfold maxF cmpF
  rw [v1.1, v2.1, v1.2, v2.2]
  unfold cmpZ
  by_cases h1 : (a : Int) < ((x.natAbs : Nat) : Int)
  ·rw [Nat.max_eq_right (by omega)]; simp [h1]
  ·rw [Nat.max_eq_left (by omega)]
   by_cases h2 : ((x.natAbs : Nat) : Int) < (a : Int)
   ·simp [h1, h2]
   ·simp [h1, h2]
 rw [e] at h
 exact h
theorem inR_maxN {F : Nat → Int} : ∀ {n : Nat}, (∀ i, i < n → InR (F i)) → InR ((maxN F n : Nat) : Int)
 | 0, _ => by unfold InR; show (((0 : Nat) : Int)).natAbs < lim; rw [lim_words]; decide
 | n + 1, h => by
  have h1 := inR_maxN (n := n) fun i hi => h i (by omega)
  have h2 := h n (by omega)
  unfold InR at *
  rw [Int.natAbs_natCast] at *
  show max (maxN F n) (F n).natAbs < lim
  omega
def NormPost (ok : Bool) (n : Nat) (F : Nat → Int) (w : World) (e : Ending) (w' : World) : Prop :=
 (if ok then e = .returned (.tuple #[.agg #[.bool false, .string (zT ((maxN F n : Nat) : Int))], .int .i64 0])
  else e = .returned (.tuple #[.agg #[.bool false, .string ⟨#[]⟩], .int .i64 2])) ∧ Below w.heap.size w w'
theorem Norm_any (N pr pw wt er : Int) (cv : Value) (chain : List Nat) (sp : Nat) (la : Int) (sa : Bool) (av : Value) (xs : List (List Nat)) (w : World) (hr : w.reads w.heap.size cv (chain.map u32V)) (hrow : w.rows u32V w.heap.size av xs) (ok : Bool) (hok : ok = true ↔ checkB N chain sp la sa xs = true ∧ AllP (modl chain sp la.toNat sa)) (n : Nat) (hn : n = N.toNat) (F : Nat → Int) (hF : F = wC (modl chain sp la.toNat sa) xs) :
  Calls Tryz.prog 8 #[.agg #[.int .i64 N, .int .u32 pr, .int .i64 pw, cv, .int .u32 (sp : Int), .int .i64 wt, .int .u32 er], .agg #[.int .i64 la, .bool sa, av]] w (NormPost ok n F w) := by
 obtain ⟨W0, hW0⟩ : ∃ W0, W0 = (((w.alloc (.cells #[.int .i64 N, .int .u32 pr, .int .i64 pw, cv, .int .u32 (sp : Int), .int .i64 wt, .int .u32 er] 25)).alloc (.cells #[.int .i64 la, .bool sa, av] 28)).alloc (.cells #[.bool false, .string ⟨#[]⟩] 40)) := ⟨_, rfl⟩
 have hB0 : Below w.heap.size w W0 := by rw [hW0]; exact (((Below.refl _ w).alloc (Nat.le_refl _) _).alloc (by simp) _).alloc (by first | (simp; done) | (simp; omega)) _
 have hp0 : W0.heap[w.heap.size]? = some (.cells #[.int .i64 N, .int .u32 pr, .int .i64 pw, cv, .int .u32 (sp : Int), .int .i64 wt, .int .u32 er] 25) := by
  rw [hW0, Below.heap_alloc _ _ _ (by first | (simp; done) | (simp; omega)), Below.heap_alloc _ _ _ (by simp)]; exact alloc_last _ _ rfl
 have ha0 : W0.heap[w.heap.size + 1]? = some (.cells #[.int .i64 la, .bool sa, av] 28) := by
  rw [hW0, Below.heap_alloc _ _ _ (by simp)]; exact alloc_last _ _ (by simp)
 have ho0 : W0.heap[w.heap.size + 1 + 1]? = some (.cells #[.bool false, .string ⟨#[]⟩] 40) := by
  rw [hW0]; exact alloc_last _ _ (by simp)
 have hz0 := lt_of_heap ho0
 have hr0 := (hr.below hB0).mono hB0.size
 have hrow0 := (hrow.below hB0).mono hB0.size
 have HCW := Lib.hid (Wides_any N pr pw wt er cv chain sp la sa av xs W0 hr0 hrow0 ok hok)
 have hin : ok = true → (∀ i, i < n → InR (F i)) ∧ n ≤ 32 := by
  intro h
  obtain ⟨hc, hA⟩ := hok.1 h
  obtain ⟨n', lv, e1, e2, -, i2, i3, i4, i5, i6, i7⟩ := checkB_elt hc
  subst e1 e2
  rw [Int.toNat_natCast] at hn hF hA
  subst hn
  unfold checkB preB at hc
  simp only [Bool.and_eq_true] at hc
  have hs := sys_modl hc.1.1 hc.1.2 hA
  have hml := modl_length chain sp lv sa i4
  refine ⟨fun i _ => ?_, i2⟩
  rw [hF]
  exact inR_joinZ hs.sep (by rw [hml]; cases sa <;> simp <;> omega)
 unfold WidesPost at HCW
 rw [← hn, ← hF] at HCW
 have HIN := Lib.hid hin
 obtain ⟨aa, ac, rfl, hac, ham, hsh⟩ := hrow0.shape
 obtain ⟨pa, pc, rfl, -⟩ := reads_u32 hr0
 have HO0 := Lib.hid ho0
 have HW0 := Lib.hid hW0
 have HB0 := Lib.hid hB0
 obtain ⟨HPOST, hpost⟩ : ∃ R, R = NormPost ok n F w := ⟨_, rfl⟩
 rw [← hpost]
 have HP := Lib.hid hpost
 obtain ⟨c0, c1, c2, c3, c4, c5, c6⟩ := par_cells hp0
 obtain ⟨k0, k1, k2, -, -, -⟩ := elem_cells ha0
 clear hr hrow hr0 hrow0 hsh hok hW0 hB0 hpost hin hn hF hp0 ha0 ho0
 go_enter Tryz.func8, Tryz.ntmps8
 go_upto_region 1 with (fail)
 rw [← HW0.out]
 cases ok with
 | false =>
  go_wp2_with fail
  (with_reducible refine HCW.out.mono ?_)
  rintro e w1 ⟨he, hb1⟩
  rw [if_neg (by decide)] at he
  subst he
  have g1 := wide_hold (w := w) HO0.out hb1
  obtain ⟨d0, d1, f0⟩ := wide_cells g1
  have hb9 := below_set2 (p := w.heap.size + 1 + 1) (below_via HB0.out hb1) (by omega) false ⟨#[]⟩
  have m2 := wide_set g1 false ⟨#[]⟩
  clear g1
  go_wp2
  clear d0 d1 f0
  obtain ⟨d20, d21, -⟩ := wide_cells m2
  clear m2
  generalize (w1.setCell ⟨w.heap.size + 1 + 1, 0, none⟩ (.bool false)).setCell ⟨w.heap.size + 1 + 1, 1, none⟩ (.string ⟨#[]⟩) = W9 at d20 d21 hb9 ⊢
  rw [HP.out]
  exact bodyPost_ret (v := .tuple #[.agg #[.bool false, .string ⟨#[]⟩], .int .i64 2]) (by simp [results, Tryz.results8, go_sem, d20, d21]) rfl ⟨by rw [if_neg (by decide)], hb9⟩
 | true =>
  obtain ⟨hFI, hn32⟩ := HIN.out rfl
  have HFI := Lib.hid hFI
  clear HIN hFI
  go_wp2_with fail
  (with_reducible refine HCW.out.mono ?_)
  rintro e w1 ⟨he, hb1⟩
  rw [if_pos trivial] at he
  obtain ⟨g, rfl, hg0, hg1⟩ := he
  have HO1 := Lib.hid (wide_hold (w := w) HO0.out hb1)
  have HG1 := Lib.hid hg1
  have HB1 := Lib.hid (below_via HB0.out hb1)
  have hgl := lt_of_heap hg1
  have hol := lt_of_heap HO1.out
  clear hb1 hg1 HO0 HCW HB0 HW0 c0 c1 c2 c3 c4 c5 c6 k0 k1 k2
  go_upto_region 5 with (fail)
  obtain ⟨o, ho⟩ : ∃ x, x = w1.heap.size := ⟨_, rfl⟩
  have hb2 : Below w1.heap.size w1 (w1.alloc (.cells #[.bool false, .string ⟨#[]⟩] 40)) := (Below.refl _ _).alloc (Nat.le_refl _) _
  have ho2 : (w1.alloc (.cells #[.bool false, .string ⟨#[]⟩] 40)).heap[o]? = some (.cells #[.bool false, .string ⟨#[]⟩] 40) := by rw [ho]; exact heap_alloc_new w1 _
  rw [← ho]
  generalize w1.alloc (.cells #[.bool false, .string ⟨#[]⟩] 40) = w2 at hb2 ho2 ⊢
  have hz2 := lt_of_heap ho2
  have HB2 := Lib.hid (below_via HB1.out hb2)
  have HG2 := Lib.hid (hold_heap HG1.out hb2)
  have HO2 := Lib.hid (wide_hold (w := w1) HO1.out hb2)
  have HQ2 := Lib.hid ho2
  have hgo : g < o := by omega
  have hoo : w.heap.size + 1 + 1 < o := by omega
  clear hb2 ho2 ho HG1 HO1 HB1 hgl hol hg0
  go_wp2_with fail
  go_loopw [23] (fun iv wr => ∃ j : Nat, j ≤ n ∧ iv = .int .i64 (j : Int) ∧ Hid (Below w.heap.size w wr) ∧ Hid (wr.heap[g]? = some (.cells (wArr F n) 40)) ∧ Hid (wr.heap[w.heap.size + 1 + 1]? = some (.cells #[.bool false, .string ⟨#[]⟩] 40)) ∧ Hid (wr.heap[o]? = some (.cells #[.bool false, .string (zT ((maxN F j : Nat) : Int))] 40))) (fun iv _ => n - (intOf iv).toNat)
  case atStart => exact ⟨0, Nat.zero_le _, rfl, HB2.out, HG2.out, HO2.out, HQ2.out⟩
  case round =>
   obtain ⟨j, hj, rfl, HBr, HGr, HOr, HQr⟩ := hrel
   obtain ⟨wo, rfl⟩ : ∃ x, x = wr := ⟨_, rfl⟩
   by_cases hlt : j < n
   ·have e0 : wo.cell? ⟨g, j * 2, none⟩ = some (.bool (zN (F j))) := by
     rw [cell_of_row wo g (j * 2) _ _ (0, 0) HGr.out]
     unfold wArr
     rw [wPart_get (by omega), if_pos (by omega), if_pos (by omega), show j * 2 / 2 = j by omega]
    have e1 : wo.cell? ⟨g, j * 2 + 1, none⟩ = some (.string (zT (F j))) := by
     rw [cell_of_row wo g (j * 2 + 1) _ _ (0, 0) HGr.out]
     unfold wArr
     rw [wPart_get (by omega), if_pos (by omega), if_neg (by omega), show (j * 2 + 1) / 2 = j by omega]
    have j1 : (j : Int) < (n : Int) := by omega
    have j2 : (0 : Int) ≤ (j : Int) := by omega
    go_upto_region 8 with (fail)
    clear e0 e1
    obtain ⟨x, hx⟩ : ∃ x, x = wo.heap.size := ⟨_, rfl⟩
    have hox : o < x := by rw [hx]; exact lt_of_heap HQr.out
    have hb3 : Below wo.heap.size wo (wo.alloc (.cells #[.bool (zN (F j)), .string (zT (F j))] 40)) := (Below.refl _ _).alloc (Nat.le_refl _) _
    have hx3 : (wo.alloc (.cells #[.bool (zN (F j)), .string (zT (F j))] 40)).heap[x]? = some (.cells #[.bool (zN (F j)), .string (zT (F j))] 40) := by rw [hx]; exact heap_alloc_new wo _
    rw [← hx]
    generalize wo.alloc (.cells #[.bool (zN (F j)), .string (zT (F j))] 40) = w3 at hb3 hx3 ⊢
    have HB3 := Lib.hid (below_via HBr.out hb3)
    have HG3 := Lib.hid (hold_heap HGr.out hb3)
    have HO3 := Lib.hid (wide_hold (w := w) HOr.out hb3)
    have HQ3 := Lib.hid (wide_hold (w := w) HQr.out hb3)
    have HX3 := Lib.hid hx3
    obtain ⟨d0, d1, f0⟩ := wide_cells hx3
    clear hb3 hx3 hx
    go_upto_region 9 with (fail)
    have hB4 : Below w.heap.size w (w3.setCell ⟨x, 0, none⟩ (.bool false)) := HB3.out.setCell (by show w.heap.size ≤ x; omega) _
    have hG4 : (w3.setCell ⟨x, 0, none⟩ (.bool false)).heap[g]? = some (.cells (wArr F n) 40) := (Below.heap_setCell _ _ _ _ (by simp; omega)).trans HG3.out
    have hO4 : (w3.setCell ⟨x, 0, none⟩ (.bool false)).heap[w.heap.size + 1 + 1]? = some (.cells #[.bool false, .string ⟨#[]⟩] 40) := (Below.heap_setCell _ _ _ _ (by simp; omega)).trans HO3.out
    have hQ4 : (w3.setCell ⟨x, 0, none⟩ (.bool false)).heap[o]? = some (.cells #[.bool false, .string (zT ((maxN F j : Nat) : Int))] 40) := (Below.heap_setCell _ _ _ _ (by simp; omega)).trans HQ3.out
    have hX4 : (w3.setCell ⟨x, 0, none⟩ (.bool false)).heap[x]? = some (.cells #[.bool false, .string (zT (F j))] 40) := by simp [World.setCell, Array.getElem?_modify, HX3.out]
    generalize w3.setCell ⟨x, 0, none⟩ (.bool false) = w4 at hB4 hG4 hO4 hQ4 hX4 ⊢
    have HB4 := Lib.hid hB4
    have HG4 := Lib.hid hG4
    have HO4 := Lib.hid hO4
    have HQ4 := Lib.hid hQ4
    clear d0 d1 f0
    obtain ⟨d0, d1, -⟩ := wide_cells hX4
    obtain ⟨q0, q1, f0⟩ := wide_cells hQ4
    have HM := Lib.hid (Max_z (maxN F j) (F j) (inR_maxN fun i hi => HFI.out i (by omega)) (HFI.out j hlt) w4)
    clear hB4 hG4 hO4 hQ4 hX4
    go_wp2_with fail
    (with_reducible refine HM.out.mono ?_)
    rintro e w5 ⟨rfl, hb5⟩
    have hQ5 := wide_hold (w := w) HQ4.out hb5
    have hG5 := hold_heap HG4.out hb5
    have hO5 := wide_hold (w := w) HO4.out hb5
    have hB5 := below_via HB4.out hb5
    obtain ⟨y, hy⟩ : ∃ y, y = zT ((max (maxN F j) (F j).natAbs : Nat) : Int) := ⟨_, rfl⟩
    rw [← hy]
    have hy2 : y = zT ((maxN F (j + 1) : Nat) : Int) := hy
    have HY := Lib.hid hy2
    have HQ6 := Lib.hid (wide_set hQ5 false y)
    have HB6 := Lib.hid (below_set2 (p := o) hB5 (by omega) false y)
    have HG6 : Hid ((((w5.setCell ⟨o, 0, none⟩ (.bool false)).setCell ⟨o, 1, none⟩ (.string y))).heap[g]? = some (.cells (wArr F n) 40)) := ((Below.heap_setCell _ _ _ _ (by simp; omega)).trans (Below.heap_setCell _ _ _ _ (by simp; omega))).trans hG5
    have HO6 : Hid ((((w5.setCell ⟨o, 0, none⟩ (.bool false)).setCell ⟨o, 1, none⟩ (.string y))).heap[w.heap.size + 1 + 1]? = some (.cells #[.bool false, .string ⟨#[]⟩] 40)) := ((Below.heap_setCell _ _ _ _ (by simp; omega)).trans (Below.heap_setCell _ _ _ _ (by simp; omega))).trans hO5
    clear q0 q1 f0 d0 d1 hy hy2
    obtain ⟨q0, q1, f0⟩ := wide_cells hQ5
    clear hQ5 hG5 hO5 hB5 hb5
    go_wp2_with fail
    go_roundw
    case rel => exact ⟨j + 1, by omega, by go_num, HB6.out, HG6.out, HO6.out, by rw [← HY.out]; exact HQ6.out⟩
    case measure => simp [intOf]; omega
   ·obtain rfl : j = n := by omega
    obtain ⟨q0, q1, -⟩ := wide_cells HQr.out
    obtain ⟨d0, d1, f0⟩ := wide_cells HOr.out
    obtain ⟨y, hy⟩ : ∃ y, y = zT ((maxN F j : Nat) : Int) := ⟨_, rfl⟩
    rw [← hy] at q1
    have HY := Lib.hid hy
    clear hy
    have m2 := wide_set HOr.out false y
    have hb9 := below_set2 (p := w.heap.size + 1 + 1) HBr.out (by omega) false y
    go_wp2
    clear d0 d1 f0 q0 q1
    obtain ⟨d20, d21, -⟩ := wide_cells m2
    clear m2
    generalize (wo.setCell ⟨w.heap.size + 1 + 1, 0, none⟩ (.bool false)).setCell ⟨w.heap.size + 1 + 1, 1, none⟩ (.string y) = W9 at d20 d21 hb9 ⊢
    rw [HP.out]
    exact bodyPost_ret (v := .tuple #[.agg #[.bool false, .string y], .int .i64 0]) (by simp [results, Tryz.results8, go_sem, d20, d21]) rfl ⟨by rw [if_pos rfl, HY.out], hb9⟩
end G
/- Walks: the fixed case that each law of the ring ends in. -/
namespace G
open Go.RowKit Go.Shelf Go.BigFrame Go.WideNum PN
attribute [local go_sem] Oper.semAt_some
theorem rows_of {α : Type} {enc : α → Value} {w : World} {B b : Nat} {rs : List (List α)} {bs : List Nat} {t : TypeId} {fz : Nat × Nat} (hl : bs.length = rs.length) (hn : rs.length ≤ maxLen)
  (hob : w.heap[b]? = some (.cells (List.zipWith (fun b r => Value.slice (some ⟨b, 0, none⟩) r.length r.length) bs rs).toArray t fz)) (hB : b < B)
  (hin : ∀ (i : Nat) (x : Nat) (r : List α), bs[i]? = some x → rs[i]? = some r → x < B ∧ r.length ≤ maxLen ∧ ∃ t fz, w.heap[x]? = some (.cells (r.map enc).toArray t fz)) :
  w.rows enc B (.slice (some ⟨b, 0, none⟩) rs.length rs.length) rs := by
 refine ⟨List.zipWith (fun b r => Value.slice (some ⟨b, 0, none⟩) r.length r.length) bs rs, by simp [hl], ?_, fun i r hr => ?_⟩
 ·have h := reads_block hob hB rs.length (by simp [hl]) hn
  have hz : (List.zipWith (fun b (r : List α) => Value.slice (some ⟨b, 0, none⟩) r.length r.length) bs rs).length = rs.length := by simp [hl]
  rw [hz] at h; exact h
 ·have hi := (List.getElem?_eq_some_iff.1 hr).1
  obtain ⟨x, hx⟩ : ∃ x, bs[i]? = some x := ⟨bs[i]'(by omega), List.getElem?_eq_getElem _⟩
  obtain ⟨h1, h2, t', fz', h3⟩ := hin i x r hx hr
  refine ⟨Value.slice (some ⟨x, 0, none⟩) r.length r.length, by rw [List.getElem?_zipWith, hx, hr], ?_⟩
  have h := reads_block h3 h1 r.length (by simp) h2
  rw [List.length_map] at h
  exact h
theorem rows_two {α : Type} {enc : α → Value} {w : World} {B b x y : Nat} {r s : List α} {t t1 t2 : TypeId} {fz fz1 fz2 : Nat × Nat}
    (hob : w.heap[b]? = some (.cells #[.slice (some ⟨x, 0, none⟩) r.length r.length, .slice (some ⟨y, 0, none⟩) s.length s.length] t fz)) (hB : b < B) (hx : x < B) (hy : y < B) (hr : r.length ≤ maxLen) (hs : s.length ≤ maxLen)
    (h1 : w.heap[x]? = some (.cells (r.map enc).toArray t1 fz1)) (h2 : w.heap[y]? = some (.cells (s.map enc).toArray t2 fz2)) : w.rows enc B (.slice (some ⟨b, 0, none⟩) 2 2) [r, s] := by
  refine rows_of (bs := [x, y]) (rs := [r, s]) rfl (by unfold maxLen; simp) hob hB fun i z q hz hq => ?_
  match i with
  | 0 => obtain rfl : x = z := by simpa using hz
         obtain rfl : r = q := by simpa using hq
         exact ⟨hx, hr, _, _, h1⟩
  | 1 => obtain rfl : y = z := by simpa using hz
         obtain rfl : s = q := by simpa using hq
         exact ⟨hy, hs, _, _, h2⟩
  | i + 2 => simp at hz
theorem rows_none (W : World) : W.rows u32V W.heap.size (.slice none 0 0) ([] : List (List Nat)) := ⟨[], rfl, reads_nil _ _, fun i r h => by simp at h⟩
theorem built_ab (W : World) (r s : List Nat) (t t1 t2 : TypeId) (hr : r.length ≤ maxLen) (hs : s.length ≤ maxLen) : World.rows u32V (((W.alloc (.cells (r.map u32V).toArray t1)).alloc (.cells (s.map u32V).toArray t2)).alloc (.cells #[.slice (some ⟨W.heap.size, 0, none⟩) r.length r.length, .slice (some ⟨W.heap.size + 1, 0, none⟩) s.length s.length] t)) (W.heap.size + 1 + 1 + 1) (.slice (some ⟨W.heap.size + 1 + 1, 0, none⟩) 2 2) [r, s] := by
 refine rows_two (t := t) (t1 := t1) (t2 := t2) (fz := (0, 0)) (fz1 := (0, 0)) (fz2 := (0, 0)) (x := W.heap.size) (y := W.heap.size + 1) ?_ (by omega) (by omega) (by omega) hr hs ?_ ?_
 all_goals (repeat (first | exact alloc_last _ _ (by simp) | rw [Below.heap_alloc _ _ _ (by (first | (simp; done) | (simp; omega)))]))
theorem built_ba (W : World) (r s : List Nat) (t t1 t2 : TypeId) (hr : r.length ≤ maxLen) (hs : s.length ≤ maxLen) : World.rows u32V (((W.alloc (.cells (s.map u32V).toArray t2)).alloc (.cells (r.map u32V).toArray t1)).alloc (.cells #[.slice (some ⟨W.heap.size + 1, 0, none⟩) r.length r.length, .slice (some ⟨W.heap.size, 0, none⟩) s.length s.length] t)) (W.heap.size + 1 + 1 + 1) (.slice (some ⟨W.heap.size + 1 + 1, 0, none⟩) 2 2) [r, s] := by
 refine rows_two (t := t) (t1 := t1) (t2 := t2) (fz := (0, 0)) (fz1 := (0, 0)) (fz2 := (0, 0)) (x := W.heap.size + 1) (y := W.heap.size) ?_ (by omega) (by omega) (by omega) hr hs ?_ ?_
 all_goals (repeat (first | exact alloc_last _ _ (by simp) | rw [Below.heap_alloc _ _ _ (by (first | (simp; done) | (simp; omega)))]))
theorem ps17 : Ps 17 := ⟨sp_of 2 17 1 4 (by decide +kernel), sp_of 7 17 1 4 (by decide +kernel), sp_of 61 17 1 4 (by decide +kernel)⟩
theorem ps97 : Ps 97 := ⟨sp_of 2 97 3 5 (by decide +kernel), sp_of 7 97 3 5 (by decide +kernel), sp_of 61 97 3 5 (by decide +kernel)⟩
theorem prime17 : PrimeP 17 := ⟨by omega, .inr ⟨by decide, ps17⟩⟩
theorem prime97 : PrimeP 97 := ⟨by omega, .inr ⟨by decide, ps97⟩⟩
theorem wC_small {ml : List Nat} (hs : SysP ml) {l : List Int} {j : Nat} (hj : j < l.length) (h : 2 * (l.getD j 0).natAbs < prodL ml) : wC ml (intRows ml l) j = l.getD j 0 := by
 have hq : ∀ q ∈ ml, 0 < q := fun q hq => (hs.sep.mem hq).1.pos
 refine join_small hs (col_row (intRows_ok hq l rfl) hj) (fun i p r hp hr => ?_) h
 unfold colL intRows at hr
 rw [List.getElem?_map, List.getElem?_map, hp] at hr
 injection hr with hr
 subst hr
 show Cg p (l.getD j 0) ((l.map (resN p)).getD j 0 : Nat)
 rw [getD_map_resN p l j hj]
 exact Cg.symm (cg_of (resN_back p (hq p (List.mem_of_getElem? hp)) _))
theorem aw_ints : intsB 4 [17, 97] 41 2 false [1, -1, 20, 0] = true ∧ intRows (modl [17, 97] 41 (2 : Int).toNat false) [1, -1, 20, 0] = [[1, 16, 3, 0], [1, 96, 20, 0]] := by decide +kernel
theorem aw_check : checkB 4 [17, 97] 41 2 false [[1, 16, 3, 0], [1, 96, 20, 0]] = true ∧ modl [17, 97] 41 (2 : Int).toNat false = [17, 97] := by decide +kernel
theorem aw_all : AllP (modl [17, 97] 41 (2 : Int).toNat false) := by
 rw [aw_check.2]
 intro q hq
 rcases List.mem_cons.1 hq with rfl | hq
 ·exact prime17
 ·obtain rfl := List.mem_singleton.1 hq
  exact prime97
theorem aw_sys : SysP [17, 97] := by
 have h := sys_modl (N := 4) (chain := [17, 97]) (sp := 41) (lv := 2) (s := false) (by decide +kernel) (by decide +kernel) (by have := aw_all; exact this)
 exact h
theorem aw_wC (j : Nat) (hj : j < 4) : wC [17, 97] [[1, 16, 3, 0], [1, 96, 20, 0]] j = [1, -1, 20, 0].getD j (0 : Int) := by
 have h := wC_small aw_sys (l := [1, -1, 20, 0]) (j := j) hj (by
  have hp : prodL [17, 97] = 1649 := by decide +kernel
  rw [hp]
  match j, hj with
  | 0, _ => decide
  | 1, _ => decide
  | 2, _ => decide
  | 3, _ => decide)
 have e : intRows [17, 97] [1, -1, 20, 0] = [[1, 16, 3, 0], [1, 96, 20, 0]] := aw_ints.2
 rw [e] at h
 exact h
theorem aw_norm : maxN (wC [17, 97] [[1, 16, 3, 0], [1, 96, 20, 0]]) 4 = 20 := by
 show max (max (max (max 0 _) _) _) _ = 20
 rw [aw_wC 0 (by omega), aw_wC 1 (by omega), aw_wC 2 (by omega), aw_wC 3 (by omega)]
 decide
theorem awake_any (w : World) : Calls Tryz.prog 5 #[] w fun e w' => e = .returned (.bool true) ∧ Below w.heap.size w w' := by
 obtain ⟨HPOST, hpost⟩ : ∃ R : Ending → World → Prop, R = fun e w' => e = .returned (.bool true) ∧ Below w.heap.size w w' := ⟨_, rfl⟩
 rw [← hpost]
 have HP := Lib.hid hpost
 clear hpost
 obtain ⟨W0, hW0⟩ : ∃ W0, W0 = ((w.alloc (.cells #[.int .u32 17, .int .u32 97] 22)).alloc (.cells #[.int .i64 4, .int .u32 0, .int .i64 0, .slice (some ⟨w.heap.size, 0, none⟩) 2 2, .int .u32 41, .int .i64 0, .int .u32 0] 25)) := ⟨_, rfl⟩
 have b0 : W0.heap[w.heap.size]? = some (.cells #[.int .u32 17, .int .u32 97] 22) := by
  rw [hW0]; repeat (first | exact alloc_last _ _ (by simp) | rw [Below.heap_alloc _ _ _ (by (first | (simp; done) | (simp; omega)))])
 have b1 : W0.heap[w.heap.size + 1]? = some (.cells #[.int .i64 4, .int .u32 0, .int .i64 0, .slice (some ⟨w.heap.size, 0, none⟩) 2 2, .int .u32 41, .int .i64 0, .int .u32 0] 25) := by
  rw [hW0]; repeat (first | exact alloc_last _ _ (by simp) | rw [Below.heap_alloc _ _ _ (by (first | (simp; done) | (simp; omega)))])
 have hz0 := lt_of_heap b1
 have hB0 : Below w.heap.size w W0 := by
  rw [hW0]; repeat (with_reducible first | refine Below.alloc ?_ (by first | omega | (simp; done) | (simp; omega)) _ | exact Below.refl _ _)
 have hr0 : W0.reads W0.heap.size (.slice (some ⟨w.heap.size, 0, none⟩) 2 2) ([17, 97].map u32V) := reads_block (l := [17, 97].map u32V) b0 (by omega) 2 (by simp) (by unfold maxLen; omega)
 obtain ⟨W1, hW1⟩ : ∃ W1, W1 = W0.alloc (.cells #[.int .i64 1, .int .i64 (-1), .int .i64 20, .int .i64 0] 2) := ⟨_, rfl⟩
 have hB1 : Below W0.heap.size W0 W1 := by rw [hW1]; exact (Below.refl _ _).alloc (Nat.le_refl _) _
 have b2 : W1.heap[W0.heap.size]? = some (.cells #[.int .i64 1, .int .i64 (-1), .int .i64 20, .int .i64 0] 2) := by rw [hW1]; exact heap_alloc_new W0 _
 have hz1 := lt_of_heap b2
 have hl1 : W1.reads W1.heap.size (.slice (some ⟨W0.heap.size, 0, none⟩) 4 4) ([1, -1, 20, 0].map i64V) := reads_block (l := [1, -1, 20, 0].map i64V) b2 (by omega) 4 (by simp) (by unfold maxLen; omega)
 have hr1 := (hr0.below hB1).mono hB1.size
 have HF := FromInts_any 4 0 0 0 0 _ [17, 97] 41 2 false _ [1, -1, 20, 0] W1 hr1 hl1
 rw [show ((41 : Nat) : Int) = 41 from rfl] at HF
 unfold IntsPost at HF
 rw [aw_ints.1, aw_ints.2] at HF
 simp only [if_true] at HF
 replace HF := Lib.hid HF
 have HR1 := Lib.hid hr1
 have HB1 := Lib.hid (below_via hB0 hB1)
 have HG1 := Lib.hid (hold_heap b1 hB1)
 obtain ⟨c0, c1, c2, c3, c4, c5, c6⟩ := par_cells b1
 have HW0 := Lib.hid hW0
 have HW1 := Lib.hid hW1
 clear hW0 hW1 b0 b1 b2 hr0 hr1 hl1 hB0 hB1
 go_enter Tryz.func5, Tryz.ntmps5
 go_upto_region 2 with (fail)
 rw [← HW0.out]
 go_wp2_with fail
 rw [← HW1.out]
 (with_reducible refine HF.out.mono ?_)
 rintro e w2 ⟨⟨rv, rfl, hv⟩, hb2⟩
 obtain ⟨ra, rc, rfl, -⟩ := hv.shape
 have HG2 := Lib.hid (hold_heap HG1.out hb2)
 have HR2 := Lib.hid ((HR1.out.below hb2).mono hb2.size)
 have HB2 := Lib.hid (below_via HB1.out hb2)
 have HV2 : Hid (w2.rows u32V w2.heap.size (.slice ra 2 rc) [[1, 16, 3, 0], [1, 96, 20, 0]]) := hv
 have hz2 := hb2.size
 clear c0 c1 c2 c3 c4 c5 c6 HF HG1 HR1 HB1 hb2 hv HW0 HW1
 go_upto_region 3 with (fail)
 obtain ⟨W3, hW3⟩ : ∃ W3, W3 = w2.alloc (.cells #[.int .i64 2, .bool false, .slice ra 2 rc] 28) := ⟨_, rfl⟩
 have hB3 : Below w2.heap.size w2 W3 := by rw [hW3]; exact (Below.refl _ _).alloc (Nat.le_refl _) _
 obtain ⟨q, hq⟩ : ∃ q, q = w2.heap.size := ⟨_, rfl⟩
 have b3 : W3.heap[q]? = some (.cells #[.int .i64 2, .bool false, .slice ra 2 rc] 28) := by rw [hW3, hq]; exact heap_alloc_new w2 _
 have hz3 := lt_of_heap b3
 have hrow3 : W3.rows u32V W3.heap.size (.slice ra 2 rc) [[1, 16, 3, 0], [1, 96, 20, 0]] := (HV2.out.below hB3).mono hB3.size
 have hr3 := (HR2.out.below hB3).mono hB3.size
 have HN := Norm_any 4 0 0 0 0 _ [17, 97] 41 2 false _ [[1, 16, 3, 0], [1, 96, 20, 0]] W3 hr3 hrow3 true ⟨fun _ => ⟨aw_check.1, aw_all⟩, fun _ => rfl⟩ 4 rfl (wC [17, 97] [[1, 16, 3, 0], [1, 96, 20, 0]]) (by rw [aw_check.2])
 rw [show ((41 : Nat) : Int) = 41 from rfl] at HN
 unfold NormPost at HN
 simp only [if_true, aw_norm] at HN
 obtain ⟨T20, hT⟩ : ∃ T, T = zT ((20 : Nat) : Int) := ⟨_, rfl⟩
 rw [← hT] at HN
 replace HN := Lib.hid HN
 have HB3 := Lib.hid (below_via HB2.out hB3)
 have HV3 := Lib.hid hrow3
 have HQ3 := Lib.hid b3
 have HT := Lib.hid hT
 obtain ⟨c0, c1, c2, c3, c4, c5, c6⟩ := par_cells (hold_heap HG2.out hB3)
 obtain ⟨k0, k1, k2, -, -, -⟩ := elem_cells b3
 have hqw : w.heap.size + 1 < q := by omega
 rw [← hW3, ← hq]
 clear hW3 HG2 HR2 HB2 HV2 hr3 hrow3 hB3 b3 hT hq
 go_wp2_with fail
 (with_reducible refine HN.out.mono ?_)
 rintro e w4 ⟨rfl, hb4⟩
 clear c0 c1 c2 c3 c4 c5 c6 k0 k1 k2 HN
 have HB4 := Lib.hid (below_via HB3.out hb4)
 have HV4 := Lib.hid ((HV3.out.below hb4).mono hb4.size)
 have HQ4 := Lib.hid (hold_heap HQ3.out hb4)
 have hz4 := hb4.size
 clear HB3 HV3 HQ3 hb4
 go_upto_region 4 with (fail)
 obtain ⟨W5, hW5⟩ : ∃ W5, W5 = w4.alloc (.cells #[.bool false, .string T20] 40) := ⟨_, rfl⟩
 have hB5 : Below w4.heap.size w4 W5 := by rw [hW5]; exact (Below.refl _ _).alloc (Nat.le_refl _) _
 obtain ⟨u, hu⟩ : ∃ u, u = w4.heap.size := ⟨_, rfl⟩
 have b5 : W5.heap[u]? = some (.cells #[.bool false, .string T20] 40) := by rw [hW5, hu]; exact heap_alloc_new w4 _
 have hz5 := lt_of_heap b5
 have HV5 := Lib.hid ((HV4.out.below hB5).mono hB5.size)
 have HB5 := Lib.hid (below_via HB4.out hB5)
 have HQ5 := Lib.hid (hold_heap HQ4.out hB5)
 have hqu : q < u := by rw [hu]; exact lt_of_heap HQ4.out
 rw [← hW5, ← hu]
 obtain ⟨k0, k1, k2, -, -, -⟩ := elem_cells HQ5.out
 obtain ⟨d0, d1, -⟩ := wide_cells b5
 have HS1 : Hid (∀ W v, Below W5.heap.size W5 W → W.rows u32V W.heap.size v [[1, 16, 3, 0], [1, 96, 20, 0]] → Calls Tryz.prog 14 #[.agg #[.int .i64 2, .bool false, .slice ra 2 rc], .agg #[.int .i64 2, .bool false, v]] W fun e w' => e = .returned (.bool true) ∧ Below W.heap.size W w') := fun W v hb h => by
  have := same_any 2 2 false false _ _ _ _ W ((HV5.out.below hb).mono hb.size) h
  simpa [sameB] using this
 have HS2 : Hid (∀ W, Below W5.heap.size W5 W → Calls Tryz.prog 14 #[.agg #[.int .i64 2, .bool false, .slice ra 2 rc], .agg #[.int .i64 0, .bool false, .slice none 0 0]] W fun e w' => e = .returned (.bool false) ∧ Below W.heap.size W w') := fun W hb => by
  have h0 : W.rows u32V W.heap.size (.slice none 0 0) ([] : List (List Nat)) := rows_none W
  have := same_any 2 0 false false _ _ _ _ W ((HV5.out.below hb).mono hb.size) h0
  simpa [sameB] using this
 have HOF : Hid (∀ W, Calls Tryz.prog 15 #[.int .i64 20] W fun e w' => e = .returned (.agg #[.bool false, .string T20]) ∧ Below W.heap.size W w') := fun W => by
  have := refOf_z 20 (by omega) (by omega) W
  rw [show zN 20 = false from by decide, show zT 20 = T20 from HT.out.symm] at this
  exact this
 clear HV5 HQ5 HV4 HQ4 HB4 hB5 b5 hW5 hu HT
 have hk : ∀ X, Below W5.heap.size W5 X → X.cell? ⟨q, 0, none⟩ = some (.int .i64 2) ∧ X.cell? ⟨q, 1, none⟩ = some (.bool false) ∧ X.cell? ⟨q, 2, none⟩ = some (.slice ra 2 rc) ∧ X.cell? ⟨u, 0, none⟩ = some (.bool false) ∧ X.cell? ⟨u, 1, none⟩ = some (.string T20) := fun X hb =>
  ⟨(hb.cell (p := ⟨q, 0, none⟩) (by show q < _; omega)).trans k0, (hb.cell (p := ⟨q, 1, none⟩) (by show q < _; omega)).trans k1, (hb.cell (p := ⟨q, 2, none⟩) (by show q < _; omega)).trans k2, (hb.cell (p := ⟨u, 0, none⟩) hz5).trans d0, (hb.cell (p := ⟨u, 1, none⟩) hz5).trans d1⟩
 have HKK := Lib.hid hk
 clear hk
 go_region_held3 (fun w' => w'.cell? ⟨q, 0, none⟩ = some (.int .i64 2) ∧ w'.cell? ⟨q, 1, none⟩ = some (.bool false) ∧ w'.cell? ⟨q, 2, none⟩ = some (.slice ra 2 rc) ∧ w'.cell? ⟨u, 0, none⟩ = some (.bool false) ∧ w'.cell? ⟨u, 1, none⟩ = some (.string T20))
  (first | exact ⟨k0, k1, k2, d0, d1⟩ | exact HKK.out _ (by repeat (with_reducible first | assumption | apply below_drewN | apply Below.drew | refine Below.alloc ?_ (by first | omega | (simp; done) | (simp; omega)) _ | exact Below.refl _ _)))
  (first
   | (go_simp; go_at_call 14; (with_reducible refine (HS1.out _ _ (by repeat (with_reducible first | assumption | apply below_drewN | apply Below.drew | refine Below.alloc ?_ (by first | omega | (simp; done) | (simp; omega)) _ | exact Below.refl _ _)) (by with_unfolding_all first | exact (built_ab _ [1, 16, 3, 0] [1, 96, 20, 0] _ _ _ (by unfold maxLen; simp) (by unfold maxLen; simp)).mono (by simp) | exact ((built_ab _ [1, 16, 3, 0] [1, 96, 20, 0] _ _ _ (by unfold maxLen; simp) (by unfold maxLen; simp)).below ((Below.refl _ _).drew)).mono (by simp) | exact (built_ba _ [1, 16, 3, 0] [1, 96, 20, 0] _ _ _ (by unfold maxLen; simp) (by unfold maxLen; simp)).mono (by simp) | exact ((built_ba _ [1, 16, 3, 0] [1, 96, 20, 0] _ _ _ (by unfold maxLen; simp) (by unfold maxLen; simp)).below ((Below.refl _ _).drew)).mono (by simp))).mono ?_); rintro e w6 ⟨rfl, hb6⟩; have h6 : Below W5.heap.size W5 w6 := below_via (by repeat (with_reducible first | assumption | apply below_drewN | apply Below.drew | refine Below.alloc ?_ (by first | omega | (simp; done) | (simp; omega)) _ | exact Below.refl _ _)) hb6; clear hb6)
   | (go_simp; go_at_call 15; (with_reducible refine (HOF.out _).mono ?_); rintro e w7 ⟨rfl, hb7⟩; have h7 : Below W5.heap.size W5 w7 := below_via h6 hb7; clear hb7)
   | (go_simp; go_at_call 14; (with_reducible refine (HS2.out _ h7).mono ?_); rintro e w8 ⟨rfl, hb8⟩; have h8 : Below W5.heap.size W5 w8 := below_via h7 hb8; clear hb8))
 all_goals
  go_wp2
  first
   | (rw [HP.out]; exact ⟨rfl, below_via HB5.out h8⟩)
   | (go_ret; exact ⟨rfl, below_via HB5.out h8⟩)
end G
/- Walks: what the laws leave out. -/
namespace G
open Go.RowKit Go.Shelf Go.BigFrame
attribute [local go_sem] Oper.semAt_some
def smallRows (rs : List (List Nat)) (k : Nat) : Bool := (rs.take k).all fun r => decide (r.length ≤ 100)
def hugeB (rs : List (List Nat)) : Bool := !smallRows rs 60 || decide (60 < rs.length)
theorem huge_any (l1 : Int) (s1 : Bool) (v1 : Value) (xs : List (List Nat)) (B1 : Nat) (w : World) (h1 : w.rows u32V B1 v1 xs) (hB1 : B1 ≤ w.heap.size) :
  Calls Tryz.prog 12 #[.agg #[.int .i64 l1, .bool s1, v1]] w fun e w' => e = .returned (.bool (hugeB xs)) ∧ Below w.heap.size w w' := by
 have hl1 := h1.le
 obtain ⟨a1, c1, rfl, hc1, hm1, hs1⟩ := h1.shape
 obtain ⟨W0, hW0⟩ : ∃ W0, W0 = w.alloc (.cells #[.int .i64 l1, .bool s1, .slice a1 xs.length c1] 28) := ⟨_, rfl⟩
 have hB0 : Below w.heap.size w W0 := by rw [hW0]; exact (Below.refl _ w).alloc (Nat.le_refl _) _
 have g1 : W0.heap[w.heap.size]? = some (.cells #[.int .i64 l1, .bool s1, .slice a1 xs.length c1] 28) := by
  rw [hW0]; exact alloc_last _ _ rfl
 obtain ⟨hcw, -⟩ := bcell hB0
 obtain ⟨k0, k1, k2, -, -, -⟩ := elem_cells g1
 have HS1 : Hid (∀ (j : Nat) (r : List Nat), xs[j]? = some r → ∃ b off b2 c2, a1 = some ⟨b, off, none⟩ ∧ W0.cell? ⟨b, off + j, none⟩ = some (.slice b2 r.length c2)) := by
  intro j r hj
  obtain ⟨b, off, b2, c2, h1, h2, h3, h4⟩ := hs1 j r hj
  exact ⟨b, off, b2, c2, h1, by rw [hcw _ _ (by omega)]; exact h3⟩
 obtain ⟨l, hl⟩ : ∃ l, l = xs.length := ⟨_, rfl⟩
 rw [← hl] at hl1 hc1 k2 hW0
 have HW0 := Lib.hid hW0
 have HL := Lib.hid hl
 rw [← hl]
 clear hs1 hcw g1 h1 hl hW0
 go_enter Tryz.func12, Tryz.ntmps12
 go_upto_region 1 with (fail)
 rw [← HW0.out]
 go_wp2
 go_loop [3] (fun i => ∃ k : Nat, k ≤ l ∧ k ≤ 60 ∧ i = .int .i64 (k : Int) ∧ Hid (smallRows xs k = true)) (fun i => l - (intOf i).toNat)
 case atStart => exact ⟨0, Nat.zero_le _, by omega, rfl, by show _ = _; simp [smallRows]⟩
 case round =>
  obtain ⟨k, hk, hk6, rfl, hall⟩ := hrel
  by_cases hlt : k < l
  ·by_cases hk60 : k < 60
   ·obtain ⟨x, hx⟩ : ∃ x, xs[k]? = some x := ⟨xs[k]'(by have := HL.out; omega), List.getElem?_eq_getElem _⟩
    obtain ⟨b1, o1, p1, d1, rfl, hcx⟩ := HS1.out k x hx
    obtain ⟨m, hm⟩ : ∃ m, m = x.length := ⟨_, rfl⟩
    rw [← hm] at hcx
    have HX := Lib.hid hx
    have HM := Lib.hid hm
    clear hx hm
    by_cases hbig : 100 < m
    ·have HF : Hid (smallRows xs 60 = false) := by
      show _ = _
      unfold smallRows
      rw [List.all_eq_false]
      refine ⟨x, ?_, by have := HM.out; simp; omega⟩
      exact List.mem_of_getElem? (i := k) (by rw [List.getElem?_take, if_pos hk60]; exact HX.out)
     go_wp2
     go_ret
     exact ⟨ret_bool (by unfold hugeB; rw [HF.out]; simp), hB0⟩
    ·go_wp2
     go_round
     case rel => exact ⟨k + 1, by omega, by omega, by go_num, by show _ = _; unfold smallRows; rw [all_take_succ _ _ _ _ HX.out]; have h3 := hall.out; unfold smallRows at h3; rw [h3]; have := HM.out; simp; omega⟩
     case measure => simp [intOf]; omega
   ·obtain rfl : k = 60 := by omega
    have HF : Hid (hugeB xs = true) := by show _ = _; unfold hugeB; have := HL.out; simp; right; omega
    go_wp2
    go_ret
    exact ⟨ret_bool (by rw [HF.out]), hB0⟩
  ·obtain rfl : k = l := by omega
   have h2 := hall.out
   have HF : Hid (hugeB xs = false) := by
    show _ = _
    have h3 := HL.out
    unfold hugeB
    unfold smallRows at h2 ⊢
    rw [List.take_of_length_le (by omega)] at h2 ⊢
    rw [h2]
    simp; omega
   clear h2 hall
   go_wp2
   go_ret
   exact ⟨ret_bool (by rw [HF.out]; simp; omega), hB0⟩
end G
/- Walks: what the ring's laws leave out, of a case. -/
namespace G
open Go.RowKit Go.Shelf Go.BigFrame
attribute [local go_sem] Oper.semAt_some
structure RCase where
 (N pr pw wt er la lb num kk level : Int)
 (cv av bv lw : Value)
 (sa sb special : Bool)
 (chain : List Nat)
 (sp : Nat)
 (xs ys : List (List Nat))
 (ls : List Int)
def RCase.cells (c : RCase) : Array Value := #[.int .i64 c.N, .int .u32 c.pr, .int .i64 c.pw, c.cv, .int .u32 (c.sp : Int), .int .i64 c.wt, .int .u32 c.er, .int .i64 c.la, .bool c.sa, c.av, .int .i64 c.lb, .bool c.sb, c.bv, .int .i64 c.num, .int .i64 c.kk, .int .i64 c.level, .bool c.special, c.lw]
def RCase.reads (c : RCase) (B : Nat) (w : World) : Prop := w.reads B c.cv (c.chain.map u32V) ∧ w.rows u32V B c.av c.xs ∧ w.rows u32V B c.bv c.ys ∧ w.reads B c.lw (c.ls.map i64V)
def largeB (c : RCase) : Bool := hugeB c.xs || hugeB c.ys || decide (100 < c.chain.length) || decide (100 < c.ls.length)
theorem large_any (c : RCase) (w : World) (h : c.reads w.heap.size w) : Calls Tryz.prog 4 #[.agg c.cells] w fun e w' => e = .returned (.bool (largeB c)) ∧ Below w.heap.size w w' := by
 obtain ⟨HPOST, hpost⟩ : ∃ R : Ending → World → Prop, R = fun e w' => e = .returned (.bool (largeB c)) ∧ Below w.heap.size w w' := ⟨_, rfl⟩
 rw [← hpost]
 have HP := Lib.hid hpost
 clear hpost
 obtain ⟨hrc, hra, hrb, hrl⟩ := h
 obtain ⟨c1, cc, hcv, hcc, hcm, -⟩ := reads_u32 hrc
 obtain ⟨l1, lc, hlv, hlc, hlm, -⟩ := reads_i64 hrl
 have HRA := Lib.hid hra
 have HRB := Lib.hid hrb
 clear hrc hra hrb hrl
 unfold RCase.cells
 rw [hcv, hlv]
 obtain ⟨m, hm⟩ : ∃ m, m = c.chain.length := ⟨_, rfl⟩
 obtain ⟨L, hL⟩ : ∃ L, L = c.ls.length := ⟨_, rfl⟩
 rw [← hm] at hcc ⊢
 rw [← hL] at hlc ⊢
 obtain ⟨W0, hW0⟩ : ∃ W0, W0 = w.alloc (.cells #[.int .i64 c.N, .int .u32 c.pr, .int .i64 c.pw, .slice c1 m cc, .int .u32 (c.sp : Int), .int .i64 c.wt, .int .u32 c.er, .int .i64 c.la, .bool c.sa, c.av, .int .i64 c.lb, .bool c.sb, c.bv, .int .i64 c.num, .int .i64 c.kk, .int .i64 c.level, .bool c.special, .slice l1 L lc] 31) := ⟨_, rfl⟩
 have hB0 : Below w.heap.size w W0 := by rw [hW0]; exact (Below.refl _ w).alloc (Nat.le_refl _) _
 have g0 : W0.heap[w.heap.size]? = some (.cells #[.int .i64 c.N, .int .u32 c.pr, .int .i64 c.pw, .slice c1 m cc, .int .u32 (c.sp : Int), .int .i64 c.wt, .int .u32 c.er, .int .i64 c.la, .bool c.sa, c.av, .int .i64 c.lb, .bool c.sb, c.bv, .int .i64 c.num, .int .i64 c.kk, .int .i64 c.level, .bool c.special, .slice l1 L lc] 31) := by
  rw [hW0]; exact alloc_last _ _ rfl
 have hz0 := lt_of_heap g0
 have HA := Lib.hid (huge_any c.la c.sa c.av c.xs w.heap.size W0 (HRA.out.below hB0) hB0.size)
 have HB := Lib.hid (fun W hb => huge_any c.lb c.sb c.bv c.ys w.heap.size W (HRB.out.below (hB0.trans (Below.mono hb hB0.size))) (Nat.le_trans hB0.size (Below.size hb)))
 have HK : Hid (∀ W, Below W0.heap.size W0 W → W.cell? ⟨w.heap.size, 3, none⟩ = some (.slice c1 m cc) ∧ W.cell? ⟨w.heap.size, 7, none⟩ = some (.int .i64 c.la) ∧ W.cell? ⟨w.heap.size, 8, none⟩ = some (.bool c.sa) ∧ W.cell? ⟨w.heap.size, 9, none⟩ = some c.av ∧ W.cell? ⟨w.heap.size, 10, none⟩ = some (.int .i64 c.lb) ∧ W.cell? ⟨w.heap.size, 11, none⟩ = some (.bool c.sb) ∧ W.cell? ⟨w.heap.size, 12, none⟩ = some c.bv ∧ W.cell? ⟨w.heap.size, 17, none⟩ = some (.slice l1 L lc)) := fun W hb => by
  have g := hold_heap g0 hb
  refine ⟨?_, ?_, ?_, ?_, ?_, ?_, ?_, ?_⟩ <;> simp [World.cell?, g]
 have HW0 := Lib.hid hW0
 obtain ⟨ha, hha⟩ : ∃ b, b = hugeB c.xs := ⟨_, rfl⟩
 obtain ⟨hb, hhb⟩ : ∃ b, b = hugeB c.ys := ⟨_, rfl⟩
 have HR : Hid (largeB c = (ha || hb || decide (100 < m) || decide (100 < L))) := by show _ = _; rw [hha, hhb, hm, hL]; rfl
 rw [← hha] at HA
 simp only [← hhb] at HB
 have HB0 := Lib.hid hB0
 obtain ⟨k3, k7, k8, k9, -, -, -, -⟩ := HK.out W0 (Below.refl _ _)
 clear hm hL hcv hlv g0 hW0 hha hhb hB0
 go_enter Tryz.func4, Tryz.ntmps4
 go_upto_region 1 with (fail)
 rw [← HW0.out]
 cases ha with
 | true =>
  go_wp2_with fail
  (with_reducible refine HA.out.mono ?_)
  rintro e w1 ⟨rfl, hb1⟩
  have HB1 := Lib.hid (below_via HB0.out hb1)
  clear hb1 k3 k7 k8 k9
  go_wp2
  rw [HP.out]
  exact ⟨by rw [HR.out]; rfl, HB1.out⟩
 | false =>
  go_wp2_with fail
  (with_reducible refine HA.out.mono ?_)
  rintro e w1 ⟨rfl, hb1⟩
  have HB1 := Lib.hid (below_via HB0.out hb1)
  have HBB := Lib.hid (HB.out w1 hb1)
  have HC1 := Lib.hid hb1
  clear k3 k7 k8 k9
  obtain ⟨-, -, -, -, k10, k11, k12, -⟩ := HK.out w1 hb1
  clear hb1
  go_wp2_with fail
  (with_reducible refine HBB.out.mono ?_)
  rintro e w2 ⟨rfl, hb2⟩
  have HB2 := Lib.hid (below_via HB1.out hb2)
  obtain ⟨k3, -, -, -, -, -, -, k17⟩ := HK.out w2 (below_via HC1.out hb2)
  clear hb2 k10 k11 k12
  cases hb with
  | true =>
   go_wp2
   rw [HP.out]
   exact ⟨by rw [HR.out]; rfl, HB2.out⟩
  | false =>
   by_cases hm1 : 100 < m
   ·have t1 : (100 : Int) < (m : Int) := by omega
    have HH : Hid (largeB c = true) := by show _ = _; rw [HR.out]; simp [hm1]
    clear HR hm1
    go_wp2
    rw [HP.out]
    exact ⟨by rw [HH.out]; rfl, HB2.out⟩
   ·have t1 : ¬ (100 : Int) < (m : Int) := by omega
    by_cases hl1 : 100 < L
    ·have t2 : (100 : Int) < (L : Int) := by omega
     have HH : Hid (largeB c = true) := by show _ = _; rw [HR.out]; simp [hl1]
     clear HR hm1 hl1
     go_wp2
     rw [HP.out]
     exact ⟨by rw [HH.out]; rfl, HB2.out⟩
    ·have t2 : ¬ (100 : Int) < (L : Int) := by omega
     have HH : Hid (largeB c = false) := by show _ = _; rw [HR.out]; simp [hl1, hm1]
     clear HR hm1 hl1
     go_wp2
     rw [HP.out]
     exact ⟨by rw [HH.out]; simp [t1, t2], HB2.out⟩
end G
/- The ring's functions in one shape; elements in boxes; what is made passes the check. -/
namespace G
open Go.RowKit Go.Shelf Go.BigFrame
attribute [local go_sem] Oper.semAt_some
structure ElAt (W : World) (b : Nat) (la : Int) (sa : Bool) (v : Value) (rs : List (List Nat)) : Prop where
 heap : W.heap[b]? = some (.cells #[.int .i64 la, .bool sa, v] 28)
 rows : W.rows u32V W.heap.size v rs
theorem ElAt.below {W W' : World} {b : Nat} {la : Int} {sa : Bool} {v : Value} {rs : List (List Nat)} (h : Hid (ElAt W b la sa v rs)) (hb : Below W.heap.size W W') : Hid (ElAt W' b la sa v rs) :=
 ⟨hold_heap (w := W) h.out.heap hb, (h.out.rows.below hb).mono hb.size⟩
theorem ElAt.new {W : World} {la : Int} {sa : Bool} {v : Value} {rs : List (List Nat)} (h : W.rows u32V W.heap.size v rs) : Hid (ElAt (W.alloc (.cells #[.int .i64 la, .bool sa, v] 28)) W.heap.size la sa v rs) :=
 ⟨heap_alloc_new W _, (h.below ((Below.refl _ W).alloc (Nat.le_refl _) _)).mono (by simp)⟩
theorem below_new (W : World) (o : Obj) : Below W.heap.size W (W.alloc o) := (Below.refl _ W).alloc (Nat.le_refl _) _
theorem hB {a b c : World} (h : Hid (Below a.heap.size a b)) (k : Below b.heap.size b c) : Hid (Below a.heap.size a c) := below_via h.out k
theorem hR {W W' : World} {v : Value} {l : List Value} (h : Hid (W.reads W.heap.size v l)) (hb : Below W.heap.size W W') : Hid (W'.reads W'.heap.size v l) := (h.out.below hb).mono hb.size
theorem hRow {W W' : World} {v : Value} {l : List (List Nat)} (h : Hid (W.rows u32V W.heap.size v l)) (hb : Below W.heap.size W W') : Hid (W'.rows u32V W'.heap.size v l) := (h.out.below hb).mono hb.size
theorem hG {W W' : World} {b : Nat} {cs : Array Value} {t : TypeId} (h : Hid (W.heap[b]? = some (.cells cs t))) (hb : Below W.heap.size W W') : Hid (W'.heap[b]? = some (.cells cs t)) := hold_heap (w := W) h.out hb
theorem lsame_any {l1 l2 : Int} {s1 s2 : Bool} {v1 v2 : Value} {xs ys : List (List Nat)} {w : World} (h1 : w.rows u32V w.heap.size v1 xs) (h2 : w.rows u32V w.heap.size v2 ys) (b : Bool) (hb : b = (decide (l1 = l2) && decide (s1 = s2) && decide (xs = ys))) :
  Calls Tryz.prog 9 #[.agg #[.int .i64 l1, .bool s1, v1], .agg #[.int .i64 l2, .bool s2, v2]] w fun e w' => e = .returned (.bool b) ∧ Below w.heap.size w w' := by
 obtain ⟨HPOST, hpost⟩ : ∃ R : Ending → World → Prop, R = fun e w' => e = .returned (.bool b) ∧ Below w.heap.size w w' := ⟨_, rfl⟩
 rw [← hpost]
 obtain ⟨a1, c1, rfl, -⟩ := h1.shape
 obtain ⟨a2, c2, rfl, -⟩ := h2.shape
 obtain ⟨W0, hW0⟩ : ∃ W0, W0 = (w.alloc (.cells #[.int .i64 l1, .bool s1, .slice a1 xs.length c1] 28)).alloc (.cells #[.int .i64 l2, .bool s2, .slice a2 ys.length c2] 28) := ⟨_, rfl⟩
 have hB0 : Below w.heap.size w W0 := by rw [hW0]; exact ((Below.refl _ w).alloc (Nat.le_refl _) _).alloc (by simp) _
 have g1 : W0.heap[w.heap.size]? = some (.cells #[.int .i64 l1, .bool s1, .slice a1 xs.length c1] 28) := by
  rw [hW0, Below.heap_alloc _ _ _ (by simp)]; exact alloc_last _ _ rfl
 have g2 : W0.heap[w.heap.size + 1]? = some (.cells #[.int .i64 l2, .bool s2, .slice a2 ys.length c2] 28) := by
  rw [hW0]; exact alloc_last _ _ (by simp)
 have HC := same09_any l1 l2 s1 s2 _ _ xs ys _ _ W0 ((h1.below hB0).mono hB0.size) ((h2.below hB0).mono hB0.size) (Nat.le_refl _) (Nat.le_refl _)
 rw [← hb] at HC
 replace HC := Lib.hid HC
 have HP := Lib.hid hpost
 have HW0 := Lib.hid hW0
 have HB0 := Lib.hid hB0
 obtain ⟨k0, k1, k2, -, -, -⟩ := elem_cells g1
 obtain ⟨m0, m1, m2, -, -, -⟩ := elem_cells g2
 clear hpost h1 h2 g1 g2 hW0 hB0 hb
 go_enter Tryz.func9, Tryz.ntmps9
 go_upto_region 1 with (fail)
 rw [← HW0.out]
 go_wp2_with fail
 (with_reducible refine HC.out.mono ?_)
 rintro e w1 ⟨rfl, hb1⟩
 go_wp2
 rw [HP.out]
 exact ⟨rfl, below_via HB0.out hb1⟩
theorem checkB_spec {N la : Int} {chain : List Nat} {sp : Nat} {sa : Bool} {xs : List (List Nat)} (h : checkB N chain sp la sa xs = true) : 4 ≤ N.toNat ∧ N.toNat ≤ 32 ∧ ((N.toNat : Nat) : Int) = N ∧ ((la.toNat : Nat) : Int) = la ∧ 1 ≤ la.toNat ∧ la.toNat ≤ chain.length ∧ chain.length ≤ 24 ∧ (∀ q ∈ modl chain sp la.toNat sa, 3 ≤ q ∧ q ≤ 2147483647) ∧ EltOk N.toNat (modl chain sp la.toNat sa) xs ∧ SizeN N.toNat := by
 have h0 := h
 obtain ⟨n, lv, rfl, rfl, i1, i2, i3, i4, i5, i6, i7⟩ := checkB_elt h
 simp only [Int.toNat_natCast]
 exact ⟨i1, i2, trivial, trivial, i3, i4, i5, i6, i7, checkB_size h0⟩
end G
/- Cases in a box; plain: what is restricted behind a product. -/
namespace G
open Go.RowKit Go.Shelf Go.BigFrame
theorem case_cells {W : World} {b : Nat} {u0 u1 u2 u3 u4 u5 u6 u7 u8 u9 u10 u11 u12 u13 u14 u15 u16 u17 : Value} {t : TypeId} (h : W.heap[b]? = some (.cells #[u0, u1, u2, u3, u4, u5, u6, u7, u8, u9, u10, u11, u12, u13, u14, u15, u16, u17] t)) :
  W.cell? ⟨b, 0, none⟩ = some u0 ∧ W.cell? ⟨b, 1, none⟩ = some u1 ∧ W.cell? ⟨b, 2, none⟩ = some u2 ∧ W.cell? ⟨b, 3, none⟩ = some u3 ∧ W.cell? ⟨b, 4, none⟩ = some u4 ∧ W.cell? ⟨b, 5, none⟩ = some u5 ∧ W.cell? ⟨b, 6, none⟩ = some u6 ∧ W.cell? ⟨b, 7, none⟩ = some u7 ∧ W.cell? ⟨b, 8, none⟩ = some u8 ∧ W.cell? ⟨b, 9, none⟩ = some u9 ∧ W.cell? ⟨b, 10, none⟩ = some u10 ∧ W.cell? ⟨b, 11, none⟩ = some u11 ∧ W.cell? ⟨b, 12, none⟩ = some u12 ∧ W.cell? ⟨b, 13, none⟩ = some u13 ∧ W.cell? ⟨b, 14, none⟩ = some u14 ∧ W.cell? ⟨b, 15, none⟩ = some u15 ∧ W.cell? ⟨b, 16, none⟩ = some u16 ∧ W.cell? ⟨b, 17, none⟩ = some u17 := by
 refine ⟨?_, ?_, ?_, ?_, ?_, ?_, ?_, ?_, ?_, ?_, ?_, ?_, ?_, ?_, ?_, ?_, ?_, ?_⟩ <;> simp [World.cell?, h]
end G
/- Walks: whether all moduli are primes, by the reference. -/
namespace G
open Go.RowKit Go.Shelf Go.BigFrame
attribute [local go_sem] Oper.semAt_some
theorem Prime05_any (n : Nat) (hn : n < 2147483648) (b : Bool) (hb : b = true ↔ PrimeP n) (w : World) :
  Calls Tryz.prog 25 #[.int .u32 (n : Int)] w fun e w' => e = .returned (.bool b) ∧ w = w' := by
 have HC := Lib.hid (Prime01_any n (by omega) b (hb.trans (prime_iff hn)) w)
 clear hb
 go_enter Tryz.func25, Tryz.ntmps25
 go_wp2_with fail
 (with_reducible refine HC.out.mono ?_)
 rintro e w1 ⟨rfl, rfl⟩
 go_wp2
 go_ret
 exact ⟨rfl, rfl⟩
end G
/- Wide integers: helpers and walks, in one text (KF1 KF2 KF3 KG1). -/
/- Walks: two lists of words are the same. -/
/- Plain: the systems 3, 5, 7 and 3, 5. -/
/- Walks: what the law shows. -/
/- Plain: the integer of a row of residues. -/
/- Walks: the reference's system; whether residues are a row. -/
section
open Go.RowKit Go.Shelf Go.WideNum PN
def RefAt (w : World) (b : Nat) (ps : List Nat) : Prop := ∃ pv, w.heap[b]? = some (.cells #[pv, .bool (zN (prodL ps)), .string (zT (prodL ps))] 93) ∧ w.reads w.heap.size pv (ps.map u32V)
theorem RefAt.below {w w' : World} {b : Nat} {ps : List Nat} (h : RefAt w b ps) (hb : Below w.heap.size w w') : RefAt w' b ps := by
 obtain ⟨pv, h1, h2⟩ := h
 exact ⟨pv, (hb.block _ (lt_of_heap h1)).trans h1, (h2.below hb).mono hb.size⟩
theorem three_ref {w : World} {b : Nat} {v0 v1 v2 : Value} {T : TypeId} (h : w.heap[b]? = some (.cells #[v0, v1, v2] T)) :
  w.cell? ⟨b, 0, none⟩ = some v0 ∧ w.cell? ⟨b, 1, none⟩ = some v1 ∧ w.cell? ⟨b, 2, none⟩ = some v2 ∧ w.frozen? ⟨b, 0, none⟩ = false ∧ w.frozen? ⟨b, 1, none⟩ = false ∧ w.frozen? ⟨b, 2, none⟩ = false :=
 ⟨by rw [cell_of_row w b 0 _ _ (0, 0) h]; rfl, by rw [cell_of_row w b 1 _ _ (0, 0) h]; rfl, by rw [cell_of_row w b 2 _ _ (0, 0) h]; rfl, by simp [World.frozen?, h], by simp [World.frozen?, h], by simp [World.frozen?, h]⟩
theorem refRow_any (b : Nat) (ps rs : List Nat) (rv : Value) (w : World) (hs : RefAt w b ps) (hr : w.reads w.heap.size rv (rs.map u32V)) (ok : Bool) (hok : ok = true ↔ RowP ps rs) :
  Calls Tryz.prog 55 #[.pointer (some ⟨b, 0, none⟩), rv] w fun e w' => e = .returned (.bool ok) ∧ ∃ n, w' = w.drewN n := by
 obtain ⟨lv, h1, h2⟩ := hs
 obtain ⟨c0, -⟩ := three_ref h1
 have hl1 := hr.le_map
 have hl2 := h2.le_map
 obtain ⟨ra, rc, rfl, hrc, hrm, hrs⟩ := reads_u32 hr
 obtain ⟨pa, pc, rfl, hpc, hpm, hps⟩ := reads_u32 h2
 have HOK := Lib.hid hok
 have HR := Lib.hid hrs
 have HS := Lib.hid hps
 clear h1 h2 hr hrs hps hok
 by_cases hlen : rs.length = ps.length
 ·have HLEN := Lib.hid hlen
  obtain ⟨n, hn⟩ : ∃ n, n = ps.length := ⟨_, rfl⟩
  rw [hlen, ← hn] at hl1 hrc ⊢
  rw [← hn] at hpc hl2 c0
  have HN := Lib.hid hn
  clear hlen hn
  have t0 : ((n : Int) != (n : Int)) = false := by simp
  go_enter Tryz.func55, Tryz.ntmps55
  go_wp2
  go_loopw [5] (fun iv wx => ∃ k d : Nat, k ≤ n ∧ iv = .int .i64 (k : Int) ∧ wx = w.drewN d ∧ Hid (∀ j, j < k → ∀ p r : Nat, ps[j]? = some p → rs[j]? = some r → r < p)) (fun iv _ => n - (intOf iv).toNat)
  case atStart => exact ⟨0, 0, Nat.zero_le _, rfl, rfl, fun j hj => by omega⟩
  case round =>
   obtain ⟨k, d, hk, rfl, rfl, hall⟩ := hrel
   by_cases hlt : k < n
   ·have hkp : k < ps.length := by rw [← HN.out]; exact hlt
    have hkr : k < rs.length := by rw [HLEN.out]; exact hkp
    obtain ⟨p, hp⟩ : ∃ p, ps[k]? = some p := ⟨ps[k], List.getElem?_eq_getElem hkp⟩
    obtain ⟨r, hr⟩ : ∃ r, rs[k]? = some r := ⟨rs[k], List.getElem?_eq_getElem hkr⟩
    obtain ⟨b1, o1, rfl, _, d1⟩ := HR.out k r hr
    obtain ⟨b2, o2, rfl, _, d2⟩ := HS.out k p hp
    have HP := Lib.hid hp
    have HRR := Lib.hid hr
    have i1 : (0 : Int) ≤ (k : Int) := by omega
    have i2 : (k : Int) < (n : Int) := by omega
    clear hp hr hkp hkr
    by_cases hrp : r < p
    ·have hnge : ¬ (p : Int) ≤ (r : Int) := by omega
     have HALL : Hid (∀ j, j < k + 1 → ∀ p r : Nat, ps[j]? = some p → rs[j]? = some r → r < p) := fun j hj p' r' hp' hr' => by
      rcases (show j < k ∨ j = k by omega) with h | rfl
      ·exact hall.out j h p' r' hp' hr'
      ·rw [HP.out] at hp'; rw [HRR.out] at hr'
       injection hp' with hp'; injection hr' with hr'
       omega
     clear hall
     go_upto_region 6 with (fail)
     go_quiet (fail)
     go_wp2
     go_roundw
     case rel => exact ⟨k + 1, _, by omega, by go_num, rfl, HALL.out⟩
     case measure => simp [intOf]; omega
    ·have hge : (p : Int) ≤ (r : Int) := by omega
     obtain rfl : ok = false := by
      cases h : ok
      ·rfl
      ·exact absurd ((HOK.out.1 h).2 k p r HP.out HRR.out) hrp
     clear hall
     go_upto_region 6 with (fail)
     go_quiet (fail)
     go_wp2
     go_ret
     exact ⟨rfl, _, World.drewN_drewN _ _ _⟩
   ·obtain rfl : ok = true := HOK.out.2 (rowP_to (fun j hj => hall.out j (by have := HN.out; omega)) HLEN.out)
    clear hall
    go_wp2
    go_ret
    exact ⟨rfl, _, rfl⟩
 ·obtain rfl : ok = false := by
   cases h : ok
   ·rfl
   ·exact absurd (HOK.out.1 h).1 hlen
  have t0 : ((rs.length : Int) != (ps.length : Int)) = true := by rw [bne_iff_ne]; omega
  go_enter Tryz.func55, Tryz.ntmps55
  go_wp2
  go_ret
  exact ⟨rfl, 0, rfl⟩
end
/- Walks: a list that is lent. -/
/- Walks: whether a lent list is as it was. -/
/- Walks: the reference's residues of an integer. -/
/- Walks: the reference's conversion (given what its Join does). -/
end Go.Proofs.YtkjlfjnncdkmlaaGreat
