/- Wide integers: helpers and walks, in one text (KA1 KA2 KA3 KA4 KA5 KA6 KA7). -/
import Derived.Test.YtnjblppapmflhaaGA2
import Derived.Test.YtnjblppapmflhaaPNa
import Derived.Test.YtnjblppapmflhaaWQ1
import Derived.Test.YtnjblppapmflhaaPN8
/- Plain: what the rule of Euclid leaves; walks: residues. -/
namespace Go.Proofs.Ytnjblppapmflhaa
set_option linter.all false
open Go.RowKit
/-- What the rule of Euclid leaves of the multiples. -/
def invX (r s : Nat) (x y : Int) : Int := if _h : s = 0 then x else invX s (r % s) y (wrap64 (x - wrap64 (((r / s : Nat) : Int) * y)))
termination_by s
decreasing_by exact Nat.mod_lt _ (Nat.pos_of_ne_zero (by assumption))
theorem invX_step (r s : Nat) (x y : Int) (h : s ≠ 0) : invX r s x y = invX s (r % s) y (wrap64 (x - wrap64 (((r / s : Nat) : Int) * y))) := by
  rw [invX, dif_neg h]
theorem invX_end (r : Nat) (x y : Int) : invX r 0 x y = x := by rw [invX]; simp
theorem dvdM {m b : Int} (k : Int) (h : m ∣ b) : m ∣ k * b := by
  obtain ⟨c, rfl⟩ := h
  exact ⟨k * c, Int.mul_left_comm _ _ _⟩
theorem invX_spec {m a : Nat} (hm : m < 4294967296) : ∀ (n s r U V : Nat) (x y : Int), s ≤ n → s < r → V * r + U * s = m → U ≤ m → ((x = -(U : Int) ∧ y = (V : Int)) ∨ (x = (U : Int) ∧ y = -(V : Int))) →
    (m : Int) ∣ x * a - r → (m : Int) ∣ y * a - s → ∃ u : Int, invX r s x y = u ∧ -(m : Int) ≤ u ∧ u ≤ m ∧ (m : Int) ∣ u * a - (Nat.gcd r s : Nat) := by
  intro n
  induction n with
  | zero =>
    intro s r U V x y h1 h2 h3 h4 h5 h6 h7
    obtain rfl : s = 0 := by omega
    refine ⟨x, invX_end _ _ _, ?_, ?_, by rw [Nat.gcd_zero_right]; exact h6⟩ <;> omega
  | succ n ih =>
    intro s r U V x y h1 h2 h3 h4 h5 h6 h7
    by_cases hs : s = 0
    · subst hs
      refine ⟨x, invX_end _ _ _, ?_, ?_, by rw [Nat.gcd_zero_right]; exact h6⟩ <;> omega
    · obtain ⟨k, hk⟩ : ∃ k, k = r / s := ⟨_, rfl⟩
      obtain ⟨t, ht⟩ : ∃ t, t = r % s := ⟨_, rfl⟩
      have hdm : s * k + t = r := by rw [hk, ht]; exact Nat.div_add_mod r s
      have hts : t < s := by rw [ht]; exact Nat.mod_lt _ (by omega)
      obtain ⟨W, hW⟩ : ∃ W, W = k * V := ⟨_, rfl⟩
      have hVs : (U + W) * s + V * t = m := by
        rw [← h3, ← hdm, hW, Nat.add_mul, Nat.mul_add]
        have : k * V * s = V * (s * k) := by simp only [Nat.mul_comm, Nat.mul_left_comm]
        omega
      have hUW : U + W ≤ m := by
        have : (U + W) * 1 ≤ (U + W) * s := Nat.mul_le_mul_left _ (by omega)
        omega
      have hV : V ≤ m := by
        have : V * 1 ≤ V * r := Nat.mul_le_mul_left _ (by omega)
        omega
      have e1 : ((k : Nat) : Int) * y = (if y = (V : Int) then (W : Int) else -(W : Int)) := by
        rcases h5 with ⟨_, h5⟩ | ⟨_, h5⟩
        · rw [if_pos h5, h5, hW]; simp
        · by_cases h0 : V = 0
          · rw [h5, hW, h0]; simp
          · rw [if_neg (by omega), h5, hW, Int.mul_neg]; simp
      have e2 : wrap64 (((k : Nat) : Int) * y) = ((k : Nat) : Int) * y := by
        rw [e1]
        split <;> exact IntWalk.wrap64_in _ (by omega)
      have hnew : ∃ z : Int, z = x - ((k : Nat) : Int) * y ∧ ((y = -(V : Int) ∧ z = ((U + W : Nat) : Int)) ∨ (y = (V : Int) ∧ z = -((U + W : Nat) : Int))) := by
        refine ⟨_, rfl, ?_⟩
        rcases h5 with ⟨h5, h6⟩ | ⟨h5, h6⟩
        · refine Or.inr ⟨h6, ?_⟩
          rw [e1, if_pos h6]; omega
        · refine Or.inl ⟨h6, ?_⟩
          by_cases h0 : V = 0
          · have : W = 0 := by rw [hW, h0]; simp
            rw [e1, this]; split <;> omega
          · rw [e1, if_neg (by omega)]; omega
      obtain ⟨z, hz, hz2⟩ := hnew
      have e3 : wrap64 (x - wrap64 (((r / s : Nat) : Int) * y)) = z := by
        rw [← hk, e2, ← hz]
        exact IntWalk.wrap64_in _ (by omega)
      rw [invX_step r s x y hs, e3, ← ht]
      obtain ⟨u, q1, q2, q3, q4⟩ := ih t s V (U + W) y z (by omega) hts hVs hV (by omega) h7 (by
        have h8 := Int.dvd_sub h6 (dvdM (k : Int) h7)
        have e4 : x * a - r - (k : Int) * (y * a - s) = z * a - t := by
          have e5 : ((s * k + t : Nat) : Int) = (r : Int) := by rw [hdm]
          rw [Int.natCast_add, Int.natCast_mul] at e5
          rw [hz, ← e5, Int.mul_sub, Int.sub_mul, Int.mul_comm (s : Int), Int.mul_assoc]
          omega
        rwa [e4] at h8)
      refine ⟨u, q1, q2, q3, ?_⟩
      rwa [show Nat.gcd s t = Nat.gcd r s by rw [ht, Nat.gcd_comm s, ← Nat.gcd_rec, Nat.gcd_comm]] at q4
/-- The inverse, from what Euclid leaves. -/
theorem inv_val {m a x : Nat} (hm : m < 4294967296) (h2 : 2 ≤ m) (ha : a < m) (hx : x < m) (h : a * x % m = 1) :
    Nat.gcd m a = 1 ∧ ((invX m a 0 1 < 0 ∧ invX m a 0 1 + (m : Int) = (x : Int)) ∨ (¬ invX m a 0 1 < 0 ∧ invX m a 0 1 = (x : Int))) := by
  have hg : Nat.gcd m a = 1 := by
    obtain ⟨g, hg⟩ : ∃ g, g = Nat.gcd m a := ⟨_, rfl⟩
    have g1 : g ∣ m := by rw [hg]; exact Nat.gcd_dvd_left _ _
    have g2 : g ∣ a * x := Nat.dvd_trans (by rw [hg]; exact Nat.gcd_dvd_right _ _) ⟨x, rfl⟩
    have g3 : g ∣ a * x % m := (Nat.dvd_mod_iff g1).2 g2
    rw [h, Nat.dvd_one] at g3
    rw [← hg, g3]
  obtain ⟨u, q1, q2, q3, q4⟩ := invX_spec (m := m) (a := a) hm a a m 0 1 0 1 (Nat.le_refl _) ha (by omega) (by omega) (Or.inl ⟨rfl, rfl⟩) ⟨-1, by omega⟩ ⟨0, by omega⟩
  rw [hg] at q4
  rw [q1]
  refine ⟨hg, ?_⟩
  have hx0 : x ≠ 0 := fun h0 => by rw [h0, Nat.mul_zero, Nat.zero_mod] at h; omega
  -- u = x modulo m
  have q5 : (m : Int) ∣ (a : Int) * x - 1 := by
    have h3 := Nat.div_add_mod (a * x) m
    rw [h] at h3
    refine ⟨((a * x / m : Nat) : Int), ?_⟩
    have : ((m * (a * x / m) + 1 : Nat) : Int) = ((a * x : Nat) : Int) := by rw [h3]
    rw [Int.natCast_add, Int.natCast_mul, Int.natCast_mul] at this
    omega
  have q6 : (m : Int) ∣ u - x := by
    have h3 := Int.dvd_sub (dvdM u q5) (dvdM (x : Int) q4)
    have e : u * ((a : Int) * x - 1) - (x : Int) * (u * a - ((1 : Nat) : Int)) = -(u - x) := by
      rw [Int.mul_sub, Int.mul_sub, show u * ((a : Int) * x) = (x : Int) * (u * a) by rw [← Int.mul_assoc, Int.mul_comm]]
      simp
      omega
    rw [e] at h3
    exact Int.dvd_neg.1 h3
  obtain ⟨c, hc⟩ := q6
  have hm0 : (0 : Int) < m := by omega
  rcases Int.lt_or_le c (-1) with h3 | h3
  · have : (m : Int) * c ≤ (m : Int) * (-2) := Int.mul_le_mul_of_nonneg_left (by omega) (by omega)
    omega
  · rcases Int.lt_or_le 0 c with h4 | h4
    · have : (m : Int) * 1 ≤ (m : Int) * c := Int.mul_le_mul_of_nonneg_left (by omega) (by omega)
      omega
    · rcases (show c = -1 ∨ c = 0 by omega) with rfl | rfl
      · left; omega
      · right; omega
end Go.Proofs.Ytnjblppapmflhaa

/- Walks: the program's calculation with residues, in range. -/
namespace Go.Proofs.Ytnjblppapmflhaa
set_option linter.all false
open Go.RowKit Go.Shelf
/-- A word and no error. -/
def U32Ok (x : Nat) (w : World) (e : Ending) (w' : World) : Prop := e = .returned (.tuple #[.int .u32 (x : Int), .int .i64 0]) ∧ Below w.heap.size w w'
theorem fits2 {a b n : Nat} (ha : a < n) (hb : b < n) (h2 : 2 ≤ n) (hn : n ≤ 2147483647) : fitsB n [a, b] = true := by unfold fitsB; simp; omega
theorem fits1 {a n : Nat} (ha : a < n) (h2 : 2 ≤ n) (hn : n ≤ 2147483647) : fitsB n [a] = true := by unfold fitsB; simp; omega
theorem fits0 {n : Nat} (h2 : 2 ≤ n) (hn : n ≤ 2147483647) : fitsB n [] = true := by unfold fitsB; simp; omega
set_option maxHeartbeats 2000000 in
theorem Mul_in (a b n : Nat) (ha : a < n) (hb : b < n) (h2 : 2 ≤ n) (hn : n ≤ 2147483647) (w : World) :
    Calls Try.prog 46 #[.int .u32 (a : Int), .int .u32 (b : Int), .int .u32 (n : Int)] w (U32Ok (a * b % n) w) := by
  have hF : ∀ W v, W.reads (w.heap.size + 1) v ([a, b].map u32V) → Calls Try.prog 68 #[.int .u32 (n : Int), v] W fun e w' => e = .returned (.bool true) ∧ W = w' := fun W v h => by
    have := fits_any n v [a, b] _ W h
    rwa [fits2 ha hb h2 hn] at this
  have HF := Lib.hid hF
  have hm := Nat.mod_lt (a * b) (show 0 < n by omega)
  have hab : a * b < 2147483647 * 2147483647 := Nat.mul_lt_mul'' (by omega) (by omega)
  obtain ⟨m, em⟩ : ∃ m, m = a * b := ⟨_, rfl⟩
  have e1 : IntKind.u64.wrap ((a : Int) * (b : Int)) = (m : Int) := by
    rw [show ((a : Int) * (b : Int)) = (m : Int) by rw [em]; simp, IntKind.wrap_u64]; omega
  rw [← em] at hm hab ⊢
  obtain ⟨x, ex⟩ : ∃ x, x = m % n := ⟨_, rfl⟩
  have e2 : (m : Int) % (n : Int) = (x : Int) := by rw [ex]; simp
  have e3 : (m : Int).tmod (n : Int) = (x : Int) := by rw [Int.tmod_eq_emod_of_nonneg (by omega), e2]
  have e4 : ((n : Int) == 0) = false := by rw [beq_eq_false_iff_ne]; omega
  rw [← ex] at hm ⊢
  have e5 : (x : Int) % 4294967296 = (x : Int) := by omega
  have HE3 := Lib.hid e3
  clear hF em ex e3
  go_enter Try.func46, Try.ntmps46
  go_wp2_with fail
  (with_reducible refine (HF.out _ _ (reads_alloc_new w [u32V a, u32V b] 23 2 (by simp) (by simp [maxLen]))).mono ?_)
  rintro e w1 ⟨rfl, rfl⟩
  clear HF
  go_wp2
  go_ret2
  exact ⟨rfl, (Below.refl _ _).alloc (Nat.le_refl _) _⟩
set_option maxHeartbeats 2000000 in
theorem Sub_in (a b n : Nat) (ha : a < n) (hb : b < n) (h2 : 2 ≤ n) (hn : n ≤ 2147483647) (w : World) :
    Calls Try.prog 70 #[.int .u32 (a : Int), .int .u32 (b : Int), .int .u32 (n : Int)] w (U32Ok ((a + n - b) % n) w) := by
  have hF : ∀ W v, W.reads (w.heap.size + 1) v ([a, b].map u32V) → Calls Try.prog 68 #[.int .u32 (n : Int), v] W fun e w' => e = .returned (.bool true) ∧ W = w' := fun W v h => by
    have := fits_any n v [a, b] _ W h
    rwa [fits2 ha hb h2 hn] at this
  have HF := Lib.hid hF
  clear hF
  by_cases hlt : a < b
  · have e1 : (a + n - b) % n = a + n - b := Nat.mod_eq_of_lt (by omega)
    rw [e1]
    obtain ⟨x, ex⟩ : ∃ x, x = a + n - b := ⟨_, rfl⟩
    have e2 : ((a : Int) + (n : Int)) - (b : Int) = (x : Int) := by omega
    rw [← ex]
    have hx : x < n := by omega
    clear ex e1
    go_enter Try.func70, Try.ntmps70
    go_wp2_with fail
    (with_reducible refine (HF.out _ _ (reads_alloc_new w [u32V a, u32V b] 23 2 (by simp) (by simp [maxLen]))).mono ?_)
    rintro e w1 ⟨rfl, rfl⟩
    clear HF
    go_wp2
    go_ret2
    refine ⟨?_, (Below.refl _ _).alloc (Nat.le_refl _) _⟩
    congr 4
  · have e1 : (a + n - b) % n = a - b := by rw [show a + n - b = a - b + n by omega, Nat.add_mod_right, Nat.mod_eq_of_lt (by omega)]
    rw [e1]
    obtain ⟨x, ex⟩ : ∃ x, x = a - b := ⟨_, rfl⟩
    have e2 : (a : Int) - (b : Int) = (x : Int) := by omega
    rw [← ex]
    have hx : x < n := by omega
    clear ex e1
    go_enter Try.func70, Try.ntmps70
    go_wp2_with fail
    (with_reducible refine (HF.out _ _ (reads_alloc_new w [u32V a, u32V b] 23 2 (by simp) (by simp [maxLen]))).mono ?_)
    rintro e w1 ⟨rfl, rfl⟩
    clear HF
    go_wp2
    go_ret2
    refine ⟨?_, (Below.refl _ _).alloc (Nat.le_refl _) _⟩
    congr 4
def I64Ok (x : Int) (w : World) (e : Ending) (w' : World) : Prop := e = .returned (.tuple #[.int .i64 x, .int .i64 0]) ∧ Below w.heap.size w w'
def balI (a n : Nat) : Int := if 2 * a > n then (a : Int) - n else a
set_option maxHeartbeats 2000000 in
theorem Balanced_in (a n : Nat) (ha : a < n) (h2 : 2 ≤ n) (hn : n ≤ 2147483647) (w : World) :
    Calls Try.prog 40 #[.int .u32 (a : Int), .int .u32 (n : Int)] w (I64Ok (balI a n) w) := by
  have hF : ∀ W v, W.reads (w.heap.size + 1) v ([a].map u32V) → Calls Try.prog 68 #[.int .u32 (n : Int), v] W fun e w' => e = .returned (.bool true) ∧ W = w' := fun W v h => by
    have := fits_any n v [a] _ W h
    rwa [fits1 ha h2 hn] at this
  have HF := Lib.hid hF
  clear hF
  unfold balI
  by_cases hlt : 2 * a > n
  · rw [if_pos hlt]
    go_enter Try.func40, Try.ntmps40
    go_wp2_with fail
    (with_reducible refine (HF.out _ _ (reads_alloc_new w [u32V a] 23 1 (by simp) (by simp [maxLen]))).mono ?_)
    rintro e w1 ⟨rfl, rfl⟩
    clear HF
    go_wp2
    go_ret2
    exact ⟨rfl, (Below.refl _ _).alloc (Nat.le_refl _) _⟩
  · rw [if_neg hlt]
    go_enter Try.func40, Try.ntmps40
    go_wp2_with fail
    (with_reducible refine (HF.out _ _ (reads_alloc_new w [u32V a] 23 1 (by simp) (by simp [maxLen]))).mono ?_)
    rintro e w1 ⟨rfl, rfl⟩
    clear HF
    go_wp2
    go_ret2
    exact ⟨rfl, (Below.refl _ _).alloc (Nat.le_refl _) _⟩
set_option maxHeartbeats 2000000 in
theorem Of_in (v : Int) (n : Nat) (hv : -9223372036854775808 ≤ v ∧ v < 9223372036854775808) (h2 : 2 ≤ n) (hn : n ≤ 2147483647) (x : Nat) (hx : v % (n : Int) = (x : Int)) (w : World) :
    Calls Try.prog 69 #[.int .i64 v, .int .u32 (n : Int)] w (U32Ok x w) := by
  have hF : ∀ W B, Calls Try.prog 68 #[.int .u32 (n : Int), .slice none 0 0] W fun e w' => e = .returned (.bool true) ∧ W = w' := fun W B => by
    have := fits_any n (.slice none 0 0) [] B W (reads_nil W B)
    rwa [fits0 h2 hn] at this
  have HF := Lib.hid (fun W => hF W 0)
  clear hF
  have e4 : ((n : Int) == 0) = false := by rw [beq_eq_false_iff_ne]; omega
  have hn0 : ¬ (n : Int) = 0 := by omega
  have hxn : x < n := by have := Int.emod_lt_of_pos v (show (0 : Int) < n by omega); omega
  obtain ⟨r, hr⟩ : ∃ r, r = v.tmod n := ⟨_, rfl⟩
  have hr1 : -(n : Int) < r ∧ r < n := by
    rw [hr]
    have h1 := Int.tmod_lt_of_pos v (show (0 : Int) < n by omega)
    have h2 := Int.tmod_lt_of_pos (-v) (show (0 : Int) < n by omega)
    rw [Int.neg_tmod] at h2
    omega
  have hr2 : (r < 0 ∧ r + n = x) ∨ (¬ r < 0 ∧ r = x) := by
    have h1 : (n : Int) ∣ v - r := by
      rw [hr]
      have := Int.mul_tdiv_add_tmod v n
      exact ⟨v.tdiv n, by omega⟩
    have h2 : (n : Int) ∣ v - x := by
      have := Int.mul_ediv_add_emod v n
      rw [hx] at this
      exact ⟨v / n, by omega⟩
    have h3 := Int.dvd_sub h1 h2
    rw [show v - r - (v - x) = (x : Int) - r by omega] at h3
    obtain ⟨c, hc⟩ := h3
    rcases Int.lt_or_le c 0 with h4 | h4
    · have : (n : Int) * c ≤ (n : Int) * (-1) := Int.mul_le_mul_of_nonneg_left (by omega) (by omega)
      rw [Int.mul_neg, Int.mul_one] at this
      omega
    · rcases Int.lt_or_le 1 c with h5 | h5
      · have : (n : Int) * 2 ≤ (n : Int) * c := Int.mul_le_mul_of_nonneg_left (by omega) (by omega)
        omega
      · rcases (show c = 0 ∨ c = 1 by omega) with rfl | rfl
        · rcases Int.lt_or_le r 0 with h6 | h6 <;> omega
        · rcases Int.lt_or_le r 0 with h6 | h6 <;> omega
  have HR := Lib.hid hr
  have hrv : v.tmod n = r := hr.symm
  clear hr hx
  rcases hr2 with ⟨h1, h3⟩ | ⟨h1, h3⟩
  · have h5 : (r + (n : Int)) % 4294967296 = (x : Int) := by omega
    go_enter Try.func69, Try.ntmps69
    go_wp2_with fail
    (with_reducible refine (HF.out _).mono ?_)
    rintro e w1 ⟨rfl, rfl⟩
    clear HF
    go_wp2
    go_ret2
    exact ⟨rfl, Below.refl _ _⟩
  · have h5 : r % 4294967296 = (x : Int) := by omega
    go_enter Try.func69, Try.ntmps69
    go_wp2_with fail
    (with_reducible refine (HF.out _).mono ?_)
    rintro e w1 ⟨rfl, rfl⟩
    clear HF
    go_wp2
    go_ret2
    exact ⟨rfl, Below.refl _ _⟩
set_option maxHeartbeats 4000000 in
theorem Inverse_in (a n x : Nat) (ha : a < n) (h2 : 2 ≤ n) (hn : n ≤ 2147483647) (hx : x < n) (hax : a * x % n = 1) (w : World) :
    Calls Try.prog 45 #[.int .u32 (a : Int), .int .u32 (n : Int)] w (U32Ok x w) := by
  have hF : ∀ W v, W.reads (w.heap.size + 1) v ([a].map u32V) → Calls Try.prog 68 #[.int .u32 (n : Int), v] W fun e w' => e = .returned (.bool true) ∧ W = w' := fun W v h => by
    have := fits_any n v [a] _ W h
    rwa [fits1 ha h2 hn] at this
  have HF := Lib.hid hF
  obtain ⟨hg, hiv⟩ := inv_val (by omega) h2 ha hx hax
  have HG := Lib.hid hg
  have HIV := Lib.hid hiv
  clear hF hg hiv hax
  go_enter Try.func45, Try.ntmps45
  go_wp2_with fail
  (with_reducible refine (HF.out _ _ (reads_alloc_new w [u32V a] 23 1 (by simp) (by simp [maxLen]))).mono ?_)
  rintro e w1 ⟨rfl, rfl⟩
  clear HF
  go_wp2
  go_loop [6, 7, 8, 9] (fun r s x y => ∃ (rn sn : Nat) (xn yn : Int), rn < 4294967296 ∧ sn < 4294967296 ∧ r = .int .i64 (rn : Int) ∧ s = .int .i64 (sn : Int) ∧ x = .int .i64 xn ∧ y = .int .i64 yn ∧ Hid (Nat.gcd rn sn = 1) ∧ Hid (invX rn sn xn yn = invX n a 0 1)) (fun _ s _ _ => (intOf s).toNat)
  case atStart => exact ⟨n, a, 0, 1, by omega, by omega, rfl, rfl, rfl, rfl, HG.out, rfl⟩
  case round =>
    obtain ⟨r, s, u, y, hr, hs, rfl, rfl, rfl, rfl, hgcd, hinv⟩ := hrel
    by_cases hs0 : s = 0
    · have t0 : ((s : Int) != 0) = false := by rw [hs0]; rfl
      have hgr : r = 1 := by have := hgcd.out; rw [hs0, Nat.gcd_zero_right] at this; exact this
      have hxe : u = invX n a 0 1 := by have := hinv.out; rw [hs0, invX_end] at this; exact this
      have hiv := HIV.out
      rw [← hxe] at hiv
      have t1 : ((r : Int) != 1) = false := by rw [hgr]; rfl
      clear hgcd hinv hs0 hgr hxe
      rcases hiv with ⟨h1, h3⟩ | ⟨h1, h3⟩
      · have h5 : (u + (n : Int)) % 4294967296 = (x : Int) := by omega
        go_wp2
        go_ret2
        exact ⟨rfl, (Below.refl _ _).alloc (Nat.le_refl _) _⟩
      · have h5 : u % 4294967296 = (x : Int) := by omega
        go_wp2
        go_ret2
        exact ⟨rfl, (Below.refl _ _).alloc (Nat.le_refl _) _⟩
    · have t0 : ((s : Int) != 0) = true := by rw [bne_iff_ne]; omega
      obtain ⟨k, hk⟩ : ∃ k, k = r / s := ⟨_, rfl⟩
      obtain ⟨t, ht⟩ : ∃ t, t = r % s := ⟨_, rfl⟩
      have hkr : k ≤ r := by rw [hk]; exact Nat.div_le_self _ _
      have hts : t < s := by rw [ht]; exact Nat.mod_lt _ (by omega)
      have hdm : s * k + t = r := by rw [hk, ht]; exact Nat.div_add_mod r s
      obtain ⟨ks, hks⟩ : ∃ ks, ks = k * s := ⟨_, rfl⟩
      have e0 : (r : Int) / (s : Int) = (k : Int) := by rw [hk]; simp
      have e1 : (k : Int) * (s : Int) = (ks : Int) := by rw [hks]; simp
      have e2 : (r : Int) - (ks : Int) = (t : Int) := by rw [hks, Nat.mul_comm]; omega
      have hks2 : ks ≤ r := by rw [hks, Nat.mul_comm]; omega
      have HK := Lib.hid hk
      have HT := Lib.hid ht
      have hs1 : 0 < s := by omega
      clear hk ht hks hdm hs0
      go_wp2
      refine ⟨⟨s, t, y, _, hs, by omega, rfl, rfl, rfl, rfl, ?_, ?_⟩, by simp [intOf]; omega⟩
      · show Nat.gcd s t = _
        rw [← hgcd.out, HT.out, Nat.gcd_comm s, ← Nat.gcd_rec, Nat.gcd_comm]
      · show invX s t y _ = _
        rw [← hinv.out, invX_step r s u y (by omega), HT.out, HK.out]
end Go.Proofs.Ytnjblppapmflhaa

/- Walks: the reference's calculation with residues, in range. -/
namespace Go.Proofs.Ytnjblppapmflhaa
set_option linter.all false
open Go.RowKit Go.Shelf
theorem modulus01_in (n : Nat) (h2 : 2 ≤ n) (hn : n ≤ 2147483647) (w : World) : Calls Try.prog 71 #[.int .u32 (n : Int)] w fun e w' => e = .returned (.bool true) ∧ w = w' := by
  go_enter Try.func71, Try.ntmps71
  go_wp2
  go_ret
  exact ⟨ret_bool (by rw [decide_eq_true_eq]; omega), rfl⟩
set_option maxHeartbeats 2000000 in
theorem times01 (a b n : Nat) (ha : a < 4294967296) (hb : b < 4294967296) (h0 : 0 < n) (hn : n < 4294967296) (w : World) :
    Calls Try.prog 73 #[.int .u32 (a : Int), .int .u32 (b : Int), .int .u32 (n : Int)] w fun e w' => e = .returned (.int .u32 ((a * b % n : Nat) : Int)) ∧ w = w' := by
  have hm := Nat.mod_lt (a * b) h0
  have hab : a * b ≤ 4294967295 * 4294967295 := Nat.mul_le_mul (by omega) (by omega)
  obtain ⟨m, em⟩ : ∃ m, m = a * b := ⟨_, rfl⟩
  have e1 : IntKind.u64.wrap ((a : Int) * (b : Int)) = (m : Int) := by
    rw [show ((a : Int) * (b : Int)) = (m : Int) by rw [em]; simp, IntKind.wrap_u64]; omega
  rw [← em] at hm hab ⊢
  obtain ⟨x, ex⟩ : ∃ x, x = m % n := ⟨_, rfl⟩
  have e2 : (m : Int) % (n : Int) = (x : Int) := by rw [ex]; simp
  have e4 : ((n : Int) == 0) = false := by rw [beq_eq_false_iff_ne]; omega
  rw [← ex] at hm ⊢
  have e5 : (x : Int) % 4294967296 = (x : Int) := by omega
  clear em ex
  go_enter Try.func73, Try.ntmps73
  go_wp2
  go_ret
  exact ⟨rfl, rfl⟩
set_option maxHeartbeats 2000000 in
theorem Mul01_in (a b n : Nat) (ha : a < n) (hb : b < n) (h2 : 2 ≤ n) (hn : n ≤ 2147483647) (w : World) :
    Calls Try.prog 48 #[.int .u32 (a : Int), .int .u32 (b : Int), .int .u32 (n : Int)] w (U32Ok (a * b % n) w) := by
  have HF := Lib.hid (fun W => modulus01_in n h2 hn W)
  have HT := Lib.hid (fun W => times01 a b n (by omega) (by omega) (by omega) (by omega) W)
  obtain ⟨x, ex⟩ : ∃ x, x = a * b % n := ⟨_, rfl⟩
  rw [← ex] at HT ⊢
  clear ex
  go_enter Try.func48, Try.ntmps48
  go_wp2_with fail
  (with_reducible refine (HF.out _).mono ?_)
  rintro e w1 ⟨rfl, rfl⟩
  go_wp2_with fail
  (with_reducible refine (HT.out _).mono ?_)
  rintro e w1 ⟨rfl, rfl⟩
  go_wp2
  go_ret2
  exact ⟨rfl, Below.refl _ _⟩
set_option maxHeartbeats 2000000 in
theorem Sub01_in (a b n : Nat) (ha : a < n) (hb : b < n) (h2 : 2 ≤ n) (hn : n ≤ 2147483647) (w : World) :
    Calls Try.prog 63 #[.int .u32 (a : Int), .int .u32 (b : Int), .int .u32 (n : Int)] w (U32Ok ((a + n - b) % n) w) := by
  have HF := Lib.hid (fun W => modulus01_in n h2 hn W)
  have hm := Nat.mod_lt (a + n - b) (show 0 < n by omega)
  obtain ⟨m, em⟩ : ∃ m, m = a + n - b := ⟨_, rfl⟩
  have e1 : ((a : Int) + (n : Int)) - (b : Int) = (m : Int) := by omega
  rw [← em] at hm ⊢
  have hmb : m < 4294967296 := by omega
  obtain ⟨x, ex⟩ : ∃ x, x = m % n := ⟨_, rfl⟩
  have e2 : (m : Int) % (n : Int) = (x : Int) := by rw [ex]; simp
  have e4 : ((n : Int) == 0) = false := by rw [beq_eq_false_iff_ne]; omega
  rw [← ex] at hm ⊢
  have e5 : (x : Int) % 4294967296 = (x : Int) := by omega
  clear em ex
  go_enter Try.func63, Try.ntmps63
  go_wp2_with fail
  (with_reducible refine (HF.out _).mono ?_)
  rintro e w1 ⟨rfl, rfl⟩
  go_wp2
  go_ret2
  exact ⟨rfl, Below.refl _ _⟩
set_option maxHeartbeats 2000000 in
theorem Balanced01_in (a n : Nat) (ha : a < n) (h2 : 2 ≤ n) (hn : n ≤ 2147483647) (w : World) :
    Calls Try.prog 43 #[.int .u32 (a : Int), .int .u32 (n : Int)] w (I64Ok (balI a n) w) := by
  have HF := Lib.hid (fun W => modulus01_in n h2 hn W)
  unfold balI
  by_cases hlt : 2 * a > n
  · rw [if_pos hlt]
    go_enter Try.func43, Try.ntmps43
    go_wp2_with fail
    (with_reducible refine (HF.out _).mono ?_)
    rintro e w1 ⟨rfl, rfl⟩
    go_wp2
    go_ret2
    exact ⟨rfl, Below.refl _ _⟩
  · rw [if_neg hlt]
    go_enter Try.func43, Try.ntmps43
    go_wp2_with fail
    (with_reducible refine (HF.out _).mono ?_)
    rintro e w1 ⟨rfl, rfl⟩
    go_wp2
    go_ret2
    exact ⟨rfl, Below.refl _ _⟩
/-- The rest of a division to the lower side. -/
theorem tmod_cases (v : Int) (n x : Nat) (h2 : 2 ≤ n) (hx : v % (n : Int) = (x : Int)) : ∃ r : Int, v.tmod n = r ∧ -(n : Int) < r ∧ r < n ∧ x < n ∧ ((r < 0 ∧ r + n = x) ∨ (¬ r < 0 ∧ r = x)) := by
  have hxn : x < n := by have := Int.emod_lt_of_pos v (show (0 : Int) < n by omega); omega
  refine ⟨v.tmod n, rfl, ?_⟩
  obtain ⟨r, hr⟩ : ∃ r, r = v.tmod n := ⟨_, rfl⟩
  rw [← hr]
  have hr1 : -(n : Int) < r ∧ r < n := by
    rw [hr]
    have h1 := Int.tmod_lt_of_pos v (show (0 : Int) < n by omega)
    have h2 := Int.tmod_lt_of_pos (-v) (show (0 : Int) < n by omega)
    rw [Int.neg_tmod] at h2
    omega
  refine ⟨hr1.1, hr1.2, hxn, ?_⟩
  have h1 : (n : Int) ∣ v - r := by
    rw [hr]
    have := Int.mul_tdiv_add_tmod v n
    exact ⟨v.tdiv n, by omega⟩
  have h2 : (n : Int) ∣ v - x := by
    have := Int.mul_ediv_add_emod v n
    rw [hx] at this
    exact ⟨v / n, by omega⟩
  have h3 := Int.dvd_sub h1 h2
  rw [show v - r - (v - x) = (x : Int) - r by omega] at h3
  obtain ⟨c, hc⟩ := h3
  rcases Int.lt_or_le c 0 with h4 | h4
  · have : (n : Int) * c ≤ (n : Int) * (-1) := Int.mul_le_mul_of_nonneg_left (by omega) (by omega)
    rw [Int.mul_neg, Int.mul_one] at this
    omega
  · rcases Int.lt_or_le 1 c with h5 | h5
    · have : (n : Int) * 2 ≤ (n : Int) * c := Int.mul_le_mul_of_nonneg_left (by omega) (by omega)
      omega
    · rcases (show c = 0 ∨ c = 1 by omega) with rfl | rfl
      · rcases Int.lt_or_le r 0 with h6 | h6 <;> omega
      · rcases Int.lt_or_le r 0 with h6 | h6 <;> omega
set_option maxHeartbeats 2000000 in
theorem Of01_in (v : Int) (n : Nat) (hv : -9223372036854775808 ≤ v ∧ v < 9223372036854775808) (h2 : 2 ≤ n) (hn : n ≤ 2147483647) (x : Nat) (hx : v % (n : Int) = (x : Int)) (w : World) :
    Calls Try.prog 72 #[.int .i64 v, .int .u32 (n : Int)] w fun e w' => e = .returned (.tuple #[.int .u32 (x : Int), .int .i64 0]) ∧ w = w' := by
  have HF := Lib.hid (fun W => modulus01_in n h2 hn W)
  have e4 : ((n : Int) == 0) = false := by rw [beq_eq_false_iff_ne]; omega
  have hn0 : ¬ (n : Int) = 0 := by omega
  obtain ⟨r, hrv, hr0, hr1, hxn, hr2⟩ := tmod_cases v n x h2 hx
  clear hx
  rcases hr2 with ⟨h1, h3⟩ | ⟨h1, h3⟩
  · have h5 : (r + (n : Int)) % 4294967296 = (x : Int) := by omega
    go_enter Try.func72, Try.ntmps72
    go_wp2_with fail
    (with_reducible refine (HF.out _).mono ?_)
    rintro e w1 ⟨rfl, rfl⟩
    go_wp2
    go_ret2
    exact ⟨rfl, rfl⟩
  · have h5 : r % 4294967296 = (x : Int) := by omega
    go_enter Try.func72, Try.ntmps72
    go_wp2_with fail
    (with_reducible refine (HF.out _).mono ?_)
    rintro e w1 ⟨rfl, rfl⟩
    go_wp2
    go_ret2
    exact ⟨rfl, rfl⟩
set_option maxHeartbeats 4000000 in
theorem Inverse01_in (a n x : Nat) (ha : a < n) (h2 : 2 ≤ n) (hn : n ≤ 2147483647) (hx : x < n) (hax : a * x % n = 1) (w : World) :
    Calls Try.prog 47 #[.int .u32 (a : Int), .int .u32 (n : Int)] w (U32Ok x w) := by
  have HF := Lib.hid (fun W => modulus01_in n h2 hn W)
  obtain ⟨hg, hiv⟩ := inv_val (by omega) h2 ha hx hax
  have HG := Lib.hid hg
  have HIV := Lib.hid hiv
  clear hg hiv hax
  go_enter Try.func47, Try.ntmps47
  go_wp2_with fail
  (with_reducible refine (HF.out _).mono ?_)
  rintro e w1 ⟨rfl, rfl⟩
  go_wp2_with fail
  go_loop [6, 7, 8, 9] (fun r s x y => ∃ (rn sn : Nat) (xn yn : Int), rn < 4294967296 ∧ sn < 4294967296 ∧ r = .int .i64 (rn : Int) ∧ s = .int .i64 (sn : Int) ∧ x = .int .i64 xn ∧ y = .int .i64 yn ∧ Hid (Nat.gcd rn sn = 1) ∧ Hid (invX rn sn xn yn = invX n a 0 1)) (fun _ s _ _ => (intOf s).toNat)
  case atStart => exact ⟨n, a, 0, 1, by omega, by omega, rfl, rfl, rfl, rfl, HG.out, rfl⟩
  case round =>
    obtain ⟨r, s, u, y, hr, hs, rfl, rfl, rfl, rfl, hgcd, hinv⟩ := hrel
    by_cases hs0 : s = 0
    · subst hs0
      have hgr : r = 1 := by have := hgcd.out; rw [Nat.gcd_zero_right] at this; exact this
      have hxe : u = invX n a 0 1 := by have := hinv.out; rw [invX_end] at this; exact this
      have hiv := HIV.out
      rw [← hxe] at hiv
      have t1 : ((r : Int) != 1) = false := by rw [hgr]; rfl
      have hub : -9223372036854775808 ≤ u ∧ u < 9223372036854775808 := by omega
      have hum : u % (n : Int) = (x : Int) := by
        rcases hiv with ⟨h1, h3⟩ | ⟨h1, h3⟩
        · rw [← Int.add_emod_right, h3]; exact Int.emod_eq_of_lt (by omega) (by omega)
        · rw [h3]; exact Int.emod_eq_of_lt (by omega) (by omega)
      have HOF := Lib.hid (fun W => Of01_in u n hub h2 hn x hum W)
      clear hgcd hinv hgr hxe hum hiv hub
      go_wp2_with fail
      (with_reducible refine (HOF.out _).mono ?_)
      rintro e w1 ⟨rfl, rfl⟩
      go_wp2
      go_ret2
      exact ⟨rfl, Below.refl _ _⟩
    · obtain ⟨k, hk⟩ : ∃ k, k = r / s := ⟨_, rfl⟩
      obtain ⟨t, ht⟩ : ∃ t, t = r % s := ⟨_, rfl⟩
      have t0 : (0 : Int) < (s : Int) := by omega
      have t0' : ((s : Int) == 0) = false := by rw [beq_eq_false_iff_ne]; omega
      have hkr : k ≤ r := by rw [hk]; exact Nat.div_le_self _ _
      have hts : t < s := by rw [ht]; exact Nat.mod_lt _ (by omega)
      have hdm : s * k + t = r := by rw [hk, ht]; exact Nat.div_add_mod r s
      obtain ⟨ks, hks⟩ : ∃ ks, ks = k * s := ⟨_, rfl⟩
      have e0 : (r : Int) / (s : Int) = (k : Int) := by rw [hk]; simp
      have e1 : (k : Int) * (s : Int) = (ks : Int) := by rw [hks]; simp
      have e2 : (r : Int) - (ks : Int) = (t : Int) := by rw [hks, Nat.mul_comm]; omega
      have hks2 : ks ≤ r := by rw [hks, Nat.mul_comm]; omega
      have HK := Lib.hid hk
      have HT := Lib.hid ht
      have hs1 : 0 < s := by omega
      clear hk ht hks hdm hs0
      go_wp2
      refine ⟨⟨s, t, y, _, hs, by omega, rfl, rfl, rfl, rfl, ?_, ?_⟩, by simp [intOf]; omega⟩
      · show Nat.gcd s t = _
        rw [← hgcd.out, HT.out, Nat.gcd_comm s, ← Nat.gcd_rec, Nat.gcd_comm]
      · show invX s t y _ = _
        rw [← hinv.out, invX_step r s u y (by omega), HT.out, HK.out]
end Go.Proofs.Ytnjblppapmflhaa

/- Walks: powers; strong tests; whether a number is a prime. -/
namespace Go.Proofs.Ytnjblppapmflhaa
set_option linter.all false
open Go.RowKit Go.Shelf PN
/-- A power under way. -/
def PwSt (a E n x e o : Nat) : Prop := x < n ∧ o < n ∧ o * x ^ e % n = a ^ E % n
theorem PwSt.start {a E n : Nat} (ha : a < n) (hn : 2 ≤ n) : PwSt a E n a E 1 := ⟨ha, by omega, by rw [Nat.one_mul]⟩
theorem PwSt.even {a E n x e o : Nat} (h : PwSt a E n x e o) (he : e % 2 = 0) : PwSt a E n (x * x % n) (e / 2) o := by
  obtain ⟨h1, h2, h3⟩ := h
  refine ⟨Nat.mod_lt _ (by omega), h2, ?_⟩
  rw [← h3, Nat.mul_mod, ← Nat.pow_mod, ← Nat.mul_mod, ← Nat.pow_two, ← Nat.pow_mul]
  congr 3; omega
theorem PwSt.odd {a E n x e o : Nat} (h : PwSt a E n x e o) (he : e % 2 = 1) : PwSt a E n (x * x % n) (e / 2) (o * x % n) := by
  obtain ⟨h1, h2, h3⟩ := h
  refine ⟨Nat.mod_lt _ (by omega), Nat.mod_lt _ (by omega), ?_⟩
  rw [← h3, Nat.mul_mod, ← Nat.pow_mod, Nat.mod_mod, ← Nat.mul_mod, ← Nat.pow_two, ← Nat.pow_mul, Nat.mul_assoc, ← Nat.pow_succ']
  congr 3; omega
theorem PwSt.fin {a E n x o : Nat} (h : PwSt a E n x 0 o) : o = a ^ E % n := by
  obtain ⟨h1, h2, h3⟩ := h
  rw [Nat.pow_zero, Nat.mul_one, Nat.mod_eq_of_lt h2] at h3
  exact h3
theorem and1_64 (y : Nat) (hy : y < 18446744073709551616) : bits .and .u64 (y : Int) 1 = ((y % 2 : Nat) : Int) := by
  show IntKind.u64.wrap ((BitVec.ofInt 64 _ &&& BitVec.ofInt 64 _).toNat : Int) = _
  rw [BitVec.ofInt_natCast, show (1 : Int) = ((1 : Nat) : Int) by rfl, BitVec.ofInt_natCast, BitVec.toNat_and, BitVec.toNat_ofNat, BitVec.toNat_ofNat, Nat.mod_eq_of_lt (by omega), Nat.mod_eq_of_lt (by omega), Nat.and_one_is_mod, IntKind.wrap_u64]
  omega
theorem and1_32 (y : Nat) (hy : y < 4294967296) : bits .and .u32 (y : Int) 1 = ((y % 2 : Nat) : Int) := by
  show IntKind.u32.wrap ((BitVec.ofInt 32 _ &&& BitVec.ofInt 32 _).toNat : Int) = _
  rw [BitVec.ofInt_natCast, show (1 : Int) = ((1 : Nat) : Int) by rfl, BitVec.ofInt_natCast, BitVec.toNat_and, BitVec.toNat_ofNat, BitVec.toNat_ofNat, Nat.mod_eq_of_lt (by omega), Nat.mod_eq_of_lt (by omega), Nat.and_one_is_mod, IntKind.wrap_u32]
  omega
set_option maxHeartbeats 2000000 in
theorem prod1_any (a b n p : Nat) (ha : a < 4294967296) (hb : b < 4294967296) (h0 : 0 < n) (hn : n < 4294967296) (w : World) (hp : w.cell? ⟨p, 0, none⟩ = some (.int .u64 (n : Int))) :
    Calls Try.prog 110 #[.int .u32 (a : Int), .int .u32 (b : Int), .pointer (some ⟨p, 0, none⟩)] w fun e w' => e = .returned (.int .u32 ((a * b % n : Nat) : Int)) ∧ w = w' := by
  have hm := Nat.mod_lt (a * b) h0
  have hab : a * b ≤ 4294967295 * 4294967295 := Nat.mul_le_mul (by omega) (by omega)
  obtain ⟨m, em⟩ : ∃ m, m = a * b := ⟨_, rfl⟩
  have e1 : IntKind.u64.wrap ((a : Int) * (b : Int)) = (m : Int) := by
    rw [show ((a : Int) * (b : Int)) = (m : Int) by rw [em]; simp, IntKind.wrap_u64]; omega
  rw [← em] at hm hab ⊢
  obtain ⟨x, ex⟩ : ∃ x, x = m % n := ⟨_, rfl⟩
  have e2 : (m : Int) % (n : Int) = (x : Int) := by rw [ex]; simp
  have e4 : ((n : Int) == 0) = false := by rw [beq_eq_false_iff_ne]; omega
  rw [← ex] at hm ⊢
  have e5 : (x : Int) % 4294967296 = (x : Int) := by omega
  clear em ex
  go_enter Try.func110, Try.ntmps110
  go_wp2
  go_ret
  exact ⟨rfl, rfl⟩
set_option maxHeartbeats 2000000 in
theorem product_any (n : Nat) (hn : n < 4294967296) (w : World) :
    Calls Try.prog 107 #[.int .u32 (n : Int)] w fun e w' => e = .returned (.func (.func 110) #[] #[.pointer (some ⟨w.heap.size, 0, none⟩)]) ∧ w' = w.alloc (.cells #[.int .u64 (n : Int)] 89) := by
  go_enter Try.func107, Try.ntmps107
  go_wp2
  go_ret
  exact ⟨rfl, rfl⟩
set_option maxHeartbeats 4000000 in
theorem power_any (a E n : Nat) (ha : a < n) (h2 : 2 ≤ n) (hn : n < 4294967296) (hE : E < 18446744073709551616) (w : World) :
    Calls Try.prog 91 #[.int .u32 (a : Int), .int .u64 (E : Int), .int .u32 (n : Int)] w fun e w' => e = .returned (.int .u32 ((a ^ E % n : Nat) : Int)) ∧ Below w.heap.size w w' := by
  obtain ⟨R, hR⟩ : ∃ R, R = a ^ E % n := ⟨_, rfl⟩
  rw [← hR]
  have HR := Lib.hid hR
  have HP := Lib.hid (fun W => product_any n hn W)
  have HT : Hid (∀ (x y : Nat) (W : World), x < n → y < n → W.cell? ⟨w.heap.size, 0, none⟩ = some (.int .u64 (n : Int)) → Calls Try.prog 110 #[.int .u32 (x : Int), .int .u32 (y : Int), .pointer (some ⟨w.heap.size, 0, none⟩)] W fun e w' => e = .returned (.int .u32 ((x * y % n : Nat) : Int)) ∧ W = w') :=
    fun x y W hx hy hc => prod1_any x y n _ (by omega) (by omega) (by omega) hn W hc
  clear hR
  go_enter Try.func91, Try.ntmps91
  go_wp2_with fail
  (with_reducible refine (HP.out _).mono ?_)
  rintro e w1 ⟨rfl, rfl⟩
  have hc : (w.alloc (.cells #[.int .u64 (n : Int)] 89)).cell? ⟨w.heap.size, 0, none⟩ = some (.int .u64 (n : Int)) := by rw [cell_of_row _ _ 0 _ _ (0, 0) (heap_alloc_new w _)]; rfl
  have hb : Below w.heap.size w (w.alloc (.cells #[.int .u64 (n : Int)] 89)) := (Below.refl _ _).alloc (Nat.le_refl _) _
  generalize w.alloc (.cells #[.int .u64 (n : Int)] 89) = W at hc hb ⊢
  have HC := Lib.hid hc
  have HB := Lib.hid hb
  clear hc hb
  go_wp2_with fail
  go_loop [0, 1, 8] (fun xv ev ov => ∃ x e o : Nat, xv = .int .u32 (x : Int) ∧ ev = .int .u64 (e : Int) ∧ ov = .int .u32 (o : Int) ∧ e < 18446744073709551616 ∧ Hid (PwSt a E n x e o)) (fun _ ev _ => (intOf ev).toNat)
  case atStart => exact ⟨a, E, 1, rfl, rfl, rfl, hE, PwSt.start ha h2⟩
  case round =>
    obtain ⟨x, e, o, rfl, rfl, rfl, he, hS⟩ := hrel
    by_cases h0 : e = 0
    · subst h0
      have hro := hS.out.fin
      rw [← HR.out] at hro
      subst hro
      go_wp2
      go_ret
      exact ⟨rfl, HB.out⟩
    · have hpos : (0 : Int) < (e : Int) := by omega
      have hand := and1_64 e he
      have hx : x < n := hS.out.1
      have ho : o < n := hS.out.2.1
      have HTx := Lib.hid (HT.out x x W hx hx HC.out)
      have HTo := Lib.hid (HT.out o x W ho hx HC.out)
      obtain ⟨x2, ex2⟩ : ∃ z, z = x * x % n := ⟨_, rfl⟩
      obtain ⟨o2, eo2⟩ : ∃ z, z = o * x % n := ⟨_, rfl⟩
      obtain ⟨h, eh⟩ : ∃ z, z = e / 2 := ⟨_, rfl⟩
      have hh : (e : Int) / 2 = (h : Int) := by omega
      have hhlt : h < e := by omega
      rcases Nat.mod_two_eq_zero_or_one e with hpar | hpar
      · have HN := Lib.hid (hS.out.even hpar)
        rw [hpar] at hand
        rw [← ex2, ← eh] at HN
        rw [← ex2] at HTx
        clear hS eh ex2 eo2 HTo hpar h0
        go_wp2_with fail
        (with_reducible refine (HTx.out).mono ?_)
        rintro ee w1 ⟨rfl, rfl⟩
        go_wp2
        go_round
        case rel => exact ⟨x2, h, o, rfl, rfl, rfl, by omega, HN.out⟩
        case measure => simp [intOf]; omega
      · have HN := Lib.hid (hS.out.odd hpar)
        rw [hpar] at hand
        rw [← ex2, ← eh, ← eo2] at HN
        rw [← ex2] at HTx
        rw [← eo2] at HTo
        clear hS eh ex2 eo2 hpar h0
        go_wp2_with fail
        (with_reducible refine (HTo.out).mono ?_)
        rintro ee w1 ⟨rfl, rfl⟩
        go_wp2_with fail
        (with_reducible refine (HTx.out).mono ?_)
        rintro ee w1 ⟨rfl, rfl⟩
        go_wp2
        go_round
        case rel => exact ⟨x2, h, o2, rfl, rfl, rfl, by omega, HN.out⟩
        case measure => simp [intOf]; omega
set_option maxHeartbeats 4000000 in
theorem power01_any (a E n : Nat) (ha : a < n) (h2 : 2 ≤ n) (hn : n < 4294967296) (hE : E < 18446744073709551616) (w : World) :
    Calls Try.prog 105 #[.int .u32 (a : Int), .int .u64 (E : Int), .int .u32 (n : Int)] w fun e w' => e = .returned (.int .u32 ((a ^ E % n : Nat) : Int)) ∧ w = w' := by
  obtain ⟨R, hR⟩ : ∃ R, R = a ^ E % n := ⟨_, rfl⟩
  rw [← hR]
  have HR := Lib.hid hR
  have HT : Hid (∀ (x y : Nat) (W : World), x < n → y < n → Calls Try.prog 73 #[.int .u32 (x : Int), .int .u32 (y : Int), .int .u32 (n : Int)] W fun e w' => e = .returned (.int .u32 ((x * y % n : Nat) : Int)) ∧ W = w') :=
    fun x y W hx hy => times01 x y n (by omega) (by omega) (by omega) hn W
  clear hR
  go_enter Try.func105, Try.ntmps105
  go_wp2_with fail
  go_loop [0, 1, 7] (fun xv ev ov => ∃ x e o : Nat, xv = .int .u32 (x : Int) ∧ ev = .int .u64 (e : Int) ∧ ov = .int .u32 (o : Int) ∧ e < 18446744073709551616 ∧ Hid (PwSt a E n x e o)) (fun _ ev _ => (intOf ev).toNat)
  case atStart => exact ⟨a, E, 1, rfl, rfl, rfl, hE, PwSt.start ha h2⟩
  case round =>
    obtain ⟨x, e, o, rfl, rfl, rfl, he, hS⟩ := hrel
    by_cases h0 : e = 0
    · subst h0
      have hro := hS.out.fin
      rw [← HR.out] at hro
      subst hro
      go_wp2
      go_ret
      exact ⟨rfl, rfl⟩
    · have hpos : (0 : Int) < (e : Int) := by omega
      have hx : x < n := hS.out.1
      have ho : o < n := hS.out.2.1
      have HTx := Lib.hid (HT.out x x w hx hx)
      have HTo := Lib.hid (HT.out o x w ho hx)
      obtain ⟨x2, ex2⟩ : ∃ z, z = x * x % n := ⟨_, rfl⟩
      obtain ⟨o2, eo2⟩ : ∃ z, z = o * x % n := ⟨_, rfl⟩
      obtain ⟨h, eh⟩ : ∃ z, z = e / 2 := ⟨_, rfl⟩
      have hh : (e : Int) / 2 = (h : Int) := by omega
      have hhlt : h < e := by omega
      rcases Nat.mod_two_eq_zero_or_one e with hpar | hpar
      · have HN := Lib.hid (hS.out.even hpar)
        have hmd : (e : Int) % 2 = 0 := by omega
        rw [← ex2, ← eh] at HN
        rw [← ex2] at HTx
        clear hS eh ex2 eo2 HTo hpar h0
        go_wp2_with fail
        (with_reducible refine (HTx.out).mono ?_)
        rintro ee w1 ⟨rfl, rfl⟩
        go_wp2
        go_round
        case rel => exact ⟨x2, h, o, rfl, rfl, rfl, by omega, HN.out⟩
        case measure => simp [intOf]; omega
      · have HN := Lib.hid (hS.out.odd hpar)
        have hmd : (e : Int) % 2 = 1 := by omega
        rw [← ex2, ← eh, ← eo2] at HN
        rw [← ex2] at HTx
        rw [← eo2] at HTo
        clear hS eh ex2 eo2 hpar h0
        go_wp2_with fail
        (with_reducible refine (HTo.out).mono ?_)
        rintro ee w1 ⟨rfl, rfl⟩
        go_wp2_with fail
        (with_reducible refine (HTx.out).mono ?_)
        rintro ee w1 ⟨rfl, rfl⟩
        go_wp2
        go_round
        case rel => exact ⟨x2, h, o2, rfl, rfl, rfl, by omega, HN.out⟩
        case measure => simp [intOf]; omega
end Go.Proofs.Ytnjblppapmflhaa

/- Walks: strong tests; whether a number is a prime. -/
namespace Go.Proofs.Ytnjblppapmflhaa
set_option linter.all false
open Go.RowKit Go.Shelf PN
theorem odd_unique : ∀ (k s d e : Nat), d * 2 ^ k = e * 2 ^ s → d % 2 = 1 → e % 2 = 1 → d = e ∧ k = s
  | 0, 0, d, e, h, _, _ => by simp at h; exact ⟨h, rfl⟩
  | 0, s + 1, d, e, h, h1, _ => by
    rw [Nat.pow_zero, Nat.mul_one, Nat.pow_succ, ← Nat.mul_assoc] at h
    omega
  | k + 1, 0, d, e, h, _, h2 => by
    rw [Nat.pow_zero, Nat.mul_one, Nat.pow_succ, ← Nat.mul_assoc] at h
    omega
  | k + 1, s + 1, d, e, h, h1, h2 => by
    rw [Nat.pow_succ, Nat.pow_succ, ← Nat.mul_assoc, ← Nat.mul_assoc] at h
    obtain ⟨h3, h4⟩ := odd_unique k s d e (by omega) h1 h2
    exact ⟨h3, by omega⟩
theorem Sp_iff {a n d k : Nat} (h : n - 1 = d * 2 ^ k) (hd : d % 2 = 1) : Sp a n ↔ (a ^ d % n = 1 ∨ ∃ r, r < k ∧ a ^ (d * 2 ^ r) % n = n - 1) := by
  constructor
  · rintro ⟨d', s, h1, h2, h3⟩
    obtain ⟨rfl, rfl⟩ := odd_unique k s d d' (by rw [← h, h1]) hd h2
    exact h3
  · intro h3
    exact ⟨d, k, h, hd, h3⟩
theorem sq_pow (a d r n : Nat) : a ^ (d * 2 ^ r) % n * (a ^ (d * 2 ^ r) % n) % n = a ^ (d * 2 ^ (r + 1)) % n := by
  rw [← Nat.mul_mod, ← Nat.pow_add, Nat.pow_succ, ← Nat.mul_assoc]
  congr 2; omega
theorem em_bool (P : Prop) : ∃ b : Bool, b = true ↔ P := by
  rcases Classical.em P with h | h
  · exact ⟨true, fun _ => h, fun _ => rfl⟩
  · exact ⟨false, fun h2 => (by cases h2), fun h2 => absurd h2 h⟩
set_option maxHeartbeats 4000000 in
theorem passes_any (a n : Nat) (ha : a < 4294967296) (h2 : 2 < n) (ho : n % 2 = 1) (hn : n < 4294967296) (b : Bool) (hb : b = true ↔ Sp a n) (w : World) :
    Calls Try.prog 75 #[.int .u32 (a : Int), .int .u32 (n : Int)] w fun e w' => e = .returned (.bool b) ∧ Below w.heap.size w w' := by
  have HB := Lib.hid hb
  obtain ⟨a1, ea1⟩ : ∃ z, z = a % n := ⟨_, rfl⟩
  have ha1 : a1 < n := by rw [ea1]; exact Nat.mod_lt _ (by omega)
  have HA1 := Lib.hid ea1
  have hm : (a : Int) % (n : Int) = (a1 : Int) := by rw [ea1]; simp
  have hn0 : ((n : Int) == 0) = false := by rw [beq_eq_false_iff_ne]; omega
  obtain ⟨m, em⟩ : ∃ m, m = n - 1 := ⟨_, rfl⟩
  have em1 : (n : Int) - 1 = (m : Int) := by omega
  have HM : Hid (m = n - 1) := em
  have hmlt : m < 4294967296 := by omega
  have hm2 : 2 ≤ m := by omega
  clear hb ea1 em
  go_enter Try.func75, Try.ntmps75
  go_wp2_with fail
  go_loop [5, 6] (fun dv kv => ∃ d k : Nat, dv = .int .u32 (d : Int) ∧ kv = .int .i64 (k : Int) ∧ 0 < d ∧ d < 4294967296 ∧ k ≤ 4294967296 - d ∧ Hid (m = d * 2 ^ k)) (fun dv _ => (intOf dv).toNat)
  case atStart => exact ⟨m, 0, rfl, rfl, by omega, hmlt, by omega, by show _ = _; simp⟩
  case round =>
    obtain ⟨d, k, rfl, rfl, hd0, hdl, hk, hS⟩ := hrel
    have hand := and1_32 d hdl
    rcases Nat.mod_two_eq_zero_or_one d with hpar | hpar
    · rw [hpar] at hand
      obtain ⟨h, eh⟩ : ∃ z, z = d / 2 := ⟨_, rfl⟩
      have hh : (d : Int) / 2 = (h : Int) := by omega
      have hS2 : Hid (m = h * 2 ^ (k + 1)) := by
        show _ = _
        rw [hS.out, Nat.pow_succ', ← Nat.mul_assoc]
        congr 1; omega
      have hh0 : 0 < h := by omega
      have hhd : h < d := by omega
      clear eh hS hpar
      go_wp2_with fail
      go_round
      case rel => exact ⟨h, k + 1, rfl, by go_num, hh0, by omega, by omega, hS2.out⟩
      case measure => simp [intOf]; omega
    · rw [hpar] at hand
      have hiff := Sp_iff (a := a) (n := n) (d := d) (k := k) (by rw [← HM.out]; exact hS.out) hpar
      have HIFF := Lib.hid hiff
      have hk1 : 1 ≤ k := by
        rcases Nat.eq_zero_or_pos k with h | h
        · have h3 := hS.out
          rw [h, Nat.pow_zero, Nat.mul_one] at h3
          have := HM.out
          omega
        · exact h
      have hpw : ∀ r, a1 ^ r % n = a ^ r % n := fun r => by rw [HA1.out, ← Nat.pow_mod]
      have hpow := fun W => power_any a1 d n ha1 (by omega) hn (by omega) W
      rw [hpw] at hpow
      obtain ⟨x, ex⟩ : ∃ x, x = a ^ d % n := ⟨_, rfl⟩
      have hxn : x < n := by rw [ex]; exact Nat.mod_lt _ (by omega)
      have hpow2 : ∀ W : World, Calls Try.prog 91 #[.int .u32 (a1 : Int), .int .u64 (d : Int), .int .u32 (n : Int)] W fun e w' => e = .returned (.int .u32 (x : Int)) ∧ Below W.heap.size W w' := fun W => by rw [ex]; exact hpow W
      have HPW := Lib.hid hpow2
      have HX := Lib.hid ex
      clear hpow hpow2 hpw ex hiff hpar
      have hmd : ¬ (n : Int) = 0 := by omega
      go_wp2_with fail
      (with_reducible refine (HPW.out _).mono ?_)
      rintro e w1 ⟨rfl, hb1⟩
      have HB1 := Lib.hid hb1
      clear hb1
      by_cases hx1 : x = 1
      · obtain rfl : b = true := HB.out.2 (HIFF.out.2 (Or.inl (by rw [← HX.out]; exact hx1)))
        have t1 : ((x : Int) == 1) = true := by rw [beq_iff_eq]; omega
        clear hx1
        go_wp2
        go_ret
        exact ⟨rfl, HB1.out⟩
      · have t1 : ((x : Int) == 1) = false := by rw [beq_eq_false_iff_ne]; omega
        by_cases hxm : x = m
        · obtain rfl : b = true := HB.out.2 (HIFF.out.2 (Or.inr ⟨0, hk1, by rw [Nat.pow_zero, Nat.mul_one, ← HX.out, ← HM.out]; exact hxm⟩))
          have t2 : ((x : Int) == (m : Int)) = true := by rw [beq_iff_eq]; omega
          clear hxm
          go_wp2
          go_ret
          exact ⟨rfl, HB1.out⟩
        · have t2 : ((x : Int) == (m : Int)) = false := by rw [beq_eq_false_iff_ne]; omega
          have HNX : Hid (¬ a ^ d % n = 1) := by show ¬ _; rw [← HX.out]; exact hx1
          have HST : Hid (∀ r, r ≤ 0 → ¬ a ^ (d * 2 ^ r) % n = n - 1) := fun r hr => by
            obtain rfl : r = 0 := by omega
            rw [Nat.pow_zero, Nat.mul_one, ← HX.out, ← HM.out]; exact hxm
          have HX0 : Hid (x = a ^ (d * 2 ^ 0) % n) := by show _ = _; rw [Nat.pow_zero, Nat.mul_one]; exact HX.out
          clear hx1 hxm
          go_wp2_with fail
          go_loop [7, 34] (fun xv iv => ∃ x r : Nat, xv = .int .u32 (x : Int) ∧ iv = .int .i64 (r : Int) ∧ r + 1 ≤ k ∧ x < n ∧ Hid (x = a ^ (d * 2 ^ r) % n) ∧ Hid (∀ r', r' ≤ r → ¬ a ^ (d * 2 ^ r') % n = n - 1)) (fun _ iv => k - (intOf iv).toNat)
          case atStart => exact ⟨x, 0, rfl, rfl, hk1, hxn, HX0.out, HST.out⟩
          case round =>
            obtain ⟨x, r, rfl, rfl, hr, hxn, hX, hno⟩ := hrel
            by_cases hlt : r + 1 < k
            · have hlt' : (r : Int) < (k : Int) - 1 := by omega
              have hm := Nat.mod_lt (x * x) (show 0 < n by omega)
              have hab : x * x ≤ 4294967295 * 4294967295 := Nat.mul_le_mul (by omega) (by omega)
              have HY : Hid (x * x % n = a ^ (d * 2 ^ (r + 1)) % n) := by show _ = _; rw [hX.out]; exact sq_pow a d r n
              obtain ⟨q, eq⟩ : ∃ m, m = x * x := ⟨_, rfl⟩
              have e1 : IntKind.u64.wrap ((x : Int) * (x : Int)) = (q : Int) := by
                rw [show ((x : Int) * (x : Int)) = (q : Int) by rw [eq]; simp, IntKind.wrap_u64]; omega
              rw [← eq] at hm hab HY
              obtain ⟨y, ey⟩ : ∃ x, x = q % n := ⟨_, rfl⟩
              have e2 : (q : Int) % (n : Int) = (y : Int) := by rw [ey]; simp
              rw [← ey] at hm HY
              have e5 : (y : Int) % 4294967296 = (y : Int) := by omega
              clear eq ey hX
              by_cases hym : y = m
              · obtain rfl : b = true := HB.out.2 (HIFF.out.2 (Or.inr ⟨r + 1, hlt, by rw [← HY.out, ← HM.out]; exact hym⟩))
                have t3 : ((y : Int) == (m : Int)) = true := by rw [beq_iff_eq]; omega
                clear hym
                go_wp2
                go_ret
                exact ⟨rfl, HB1.out⟩
              · have t3 : ((y : Int) == (m : Int)) = false := by rw [beq_eq_false_iff_ne]; omega
                have HNO2 : Hid (∀ r', r' ≤ r + 1 → ¬ a ^ (d * 2 ^ r') % n = n - 1) := fun r' hr' => by
                  rcases (show r' ≤ r ∨ r' = r + 1 by omega) with h | h
                  · exact hno.out r' h
                  · rw [h, ← HY.out, ← HM.out]; exact hym
                clear hym hno
                go_wp2_with fail
                go_round
                case rel => exact ⟨y, r + 1, rfl, by go_num, by omega, hm, HY.out, HNO2.out⟩
                case measure => simp [intOf]; omega
            · have hlt' : ¬ (r : Int) < (k : Int) - 1 := by omega
              obtain rfl : b = false := by
                cases hb3 : b
                · rfl
                · rcases HIFF.out.1 (HB.out.1 hb3) with h | ⟨r', h3, h4⟩
                  · exact absurd h HNX.out
                  · exact absurd h4 (hno.out r' (by omega))
              clear hno hX
              go_wp2
              go_ret
              exact ⟨rfl, HB1.out⟩
end Go.Proofs.Ytnjblppapmflhaa

/- Walks: the reference's strong test; whether a number is a prime. -/
namespace Go.Proofs.Ytnjblppapmflhaa
set_option linter.all false
open Go.RowKit Go.Shelf PN
set_option maxHeartbeats 4000000 in
theorem strong_any (a n : Nat) (ha : a < 4294967296) (h2 : 2 < n) (ho : n % 2 = 1) (hn : n < 4294967296) (b : Bool) (hb : b = true ↔ Sp a n) (w : World) :
    Calls Try.prog 88 #[.int .u32 (a : Int), .int .u32 (n : Int)] w fun e w' => e = .returned (.bool b) ∧ w = w' := by
  have HB := Lib.hid hb
  obtain ⟨a1, ea1⟩ : ∃ z, z = a % n := ⟨_, rfl⟩
  have ha1 : a1 < n := by rw [ea1]; exact Nat.mod_lt _ (by omega)
  have HA1 := Lib.hid ea1
  have hm : (a : Int) % (n : Int) = (a1 : Int) := by rw [ea1]; simp
  have hn0 : ((n : Int) == 0) = false := by rw [beq_eq_false_iff_ne]; omega
  obtain ⟨m, em⟩ : ∃ m, m = n - 1 := ⟨_, rfl⟩
  have em1 : (n : Int) - 1 = (m : Int) := by omega
  have HM : Hid (m = n - 1) := em
  have hmlt : m < 4294967296 := by omega
  have hm2 : 2 ≤ m := by omega
  have HTM : Hid (∀ (x : Nat) (W : World), x < n → Calls Try.prog 73 #[.int .u32 (x : Int), .int .u32 (x : Int), .int .u32 (n : Int)] W fun e w' => e = .returned (.int .u32 ((x * x % n : Nat) : Int)) ∧ W = w') :=
    fun x W hx => times01 x x n (by omega) (by omega) (by omega) hn W
  clear hb ea1 em
  go_enter Try.func88, Try.ntmps88
  go_wp2_with fail
  go_loop [5] (fun dv => ∃ d k : Nat, dv = .int .u32 (d : Int) ∧ 0 < d ∧ d < 4294967296 ∧ Hid (m = d * 2 ^ k)) (fun dv => (intOf dv).toNat)
  case atStart => exact ⟨m, 0, rfl, by omega, hmlt, by show _ = _; simp⟩
  case round =>
    obtain ⟨d, k, rfl, hd0, hdl, hS⟩ := hrel
    rcases Nat.mod_two_eq_zero_or_one d with hpar | hpar
    · have hand : (d : Int) % 2 = 0 := by omega
      obtain ⟨h, eh⟩ : ∃ z, z = d / 2 := ⟨_, rfl⟩
      have hh : (d : Int) / 2 = (h : Int) := by omega
      have hS2 : Hid (m = h * 2 ^ (k + 1)) := by
        show _ = _
        rw [hS.out, Nat.pow_succ', ← Nat.mul_assoc]
        congr 1; omega
      have hh0 : 0 < h := by omega
      have hhd : h < d := by omega
      clear eh hS hpar
      go_wp2_with fail
      go_round
      case rel => exact ⟨h, k + 1, rfl, hh0, by omega, hS2.out⟩
      case measure => simp [intOf]; omega
    · have hand : (d : Int) % 2 = 1 := by omega
      have hiff := Sp_iff (a := a) (n := n) (d := d) (k := k) (by rw [← HM.out]; exact hS.out) hpar
      have HIFF := Lib.hid hiff
      have hk1 : 1 ≤ k := by
        rcases Nat.eq_zero_or_pos k with h | h
        · have h3 := hS.out
          rw [h, Nat.pow_zero, Nat.mul_one] at h3
          have := HM.out
          omega
        · exact h
      have hpw : ∀ r, a1 ^ r % n = a ^ r % n := fun r => by rw [HA1.out, ← Nat.pow_mod]
      have hpow := fun W => power01_any a1 d n ha1 (by omega) hn (by omega) W
      rw [hpw] at hpow
      obtain ⟨x, ex⟩ : ∃ x, x = a ^ d % n := ⟨_, rfl⟩
      have hxn : x < n := by rw [ex]; exact Nat.mod_lt _ (by omega)
      have hpow2 : ∀ W : World, Calls Try.prog 105 #[.int .u32 (a1 : Int), .int .u64 (d : Int), .int .u32 (n : Int)] W fun e w' => e = .returned (.int .u32 (x : Int)) ∧ W = w' := fun W => by rw [ex]; exact hpow W
      have HPW := Lib.hid hpow2
      have HX := Lib.hid ex
      clear hpow hpow2 hpw ex hiff hpar
      have hmd : ¬ (n : Int) = 0 := by omega
      go_wp2_with fail
      (with_reducible refine (HPW.out _).mono ?_)
      rintro e w1 ⟨rfl, rfl⟩
      by_cases hx1 : x = 1
      · obtain rfl : b = true := HB.out.2 (HIFF.out.2 (Or.inl (by rw [← HX.out]; exact hx1)))
        have t1 : ((x : Int) == 1) = true := by rw [beq_iff_eq]; omega
        clear hx1
        go_wp2
        go_ret
        exact ⟨rfl, rfl⟩
      · have t1 : ((x : Int) == 1) = false := by rw [beq_eq_false_iff_ne]; omega
        have HNX : Hid (¬ a ^ d % n = 1) := by show ¬ _; rw [← HX.out]; exact hx1
        have HX0 : Hid (x = a ^ (d * 2 ^ 0) % n) := by show _ = _; rw [Nat.pow_zero, Nat.mul_one]; exact HX.out
        clear hx1
        go_wp2_with fail
        go_loop [5, 6] (fun dv xv => ∃ x r c : Nat, xv = .int .u32 (x : Int) ∧ dv = .int .u32 (c : Int) ∧ 0 < c ∧ c ≤ m ∧ r ≤ k ∧ x < n ∧ Hid (c = d * 2 ^ r) ∧ Hid (x = a ^ (d * 2 ^ r) % n) ∧ Hid (∀ r', r' < r → ¬ a ^ (d * 2 ^ r') % n = n - 1)) (fun dv _ => m - (intOf dv).toNat)
        case atStart => exact ⟨x, 0, d, rfl, rfl, hd0, by rw [hS.out]; exact Nat.le_mul_of_pos_right _ (Nat.pow_pos (by omega)), by omega, hxn, by show _ = _; simp, HX0.out, fun r' h => by omega⟩
        case round =>
          obtain ⟨x, r, c, rfl, rfl, hc0, hcm, hr, hxn, hC, hX, hno⟩ := hrel
          by_cases hlt : c < m
          · have hlt' : (c : Int) < (m : Int) := by omega
            have hrk : r < k := by
              rcases Nat.lt_or_ge r k with h | h
              · exact h
              · exfalso
                obtain rfl : r = k := by omega
                have h1 := hS.out
                have h3 := hC.out
                omega
            by_cases hym : x = m
            · obtain rfl : b = true := HB.out.2 (HIFF.out.2 (Or.inr ⟨r, hrk, by rw [← hX.out, ← HM.out]; exact hym⟩))
              have t3 : ((x : Int) == (m : Int)) = true := by rw [beq_iff_eq]; omega
              clear hym hX hno hC
              go_wp2
              go_ret
              exact ⟨rfl, rfl⟩
            · have t3 : ((x : Int) == (m : Int)) = false := by rw [beq_eq_false_iff_ne]; omega
              have HY : Hid (x * x % n = a ^ (d * 2 ^ (r + 1)) % n) := by show _ = _; rw [hX.out]; exact sq_pow a d r n
              have hm := Nat.mod_lt (x * x) (show 0 < n by omega)
              have hT := HTM.out x
              obtain ⟨y, ey⟩ : ∃ y, y = x * x % n := ⟨_, rfl⟩
              rw [← ey] at hm HY hT
              have HT2 := Lib.hid (fun W => hT W hxn)
              have HNO2 : Hid (∀ r', r' < r + 1 → ¬ a ^ (d * 2 ^ r') % n = n - 1) := fun r' hr' => by
                rcases (show r' < r ∨ r' = r by omega) with h | h
                · exact hno.out r' h
                · rw [h, ← hX.out, ← HM.out]; exact hym
              have HC2 : Hid (c * 2 = d * 2 ^ (r + 1)) := by show _ = _; rw [hC.out, Nat.pow_succ, Nat.mul_assoc]
              have hcm2 : c * 2 ≤ m := by
                rw [HC2.out, hS.out]
                exact Nat.mul_le_mul_left _ (Nat.pow_le_pow_right (by omega) hrk)
              obtain ⟨c2, ec2⟩ : ∃ c2, c2 = c * 2 := ⟨_, rfl⟩
              have hc2 : (c : Int) * 2 = (c2 : Int) := by omega
              rw [← ec2] at HC2 hcm2
              have hc2c : c < c2 := by omega
              clear hym hno hX ey hT hC ec2
              go_wp2_with fail
              (with_reducible refine (HT2.out _).mono ?_)
              rintro ee w1 ⟨rfl, rfl⟩
              go_wp2_with fail
              go_round
              case rel => exact ⟨y, r + 1, c2, rfl, rfl, by omega, hcm2, by omega, hm, HC2.out, HY.out, HNO2.out⟩
              case measure => simp [intOf]; omega
          · have hlt' : ¬ (c : Int) < (m : Int) := by omega
            obtain rfl : b = false := by
              cases hb3 : b
              · rfl
              · rcases HIFF.out.1 (HB.out.1 hb3) with h | ⟨r', h3, h4⟩
                · exact absurd h HNX.out
                · have hrr : r' < r := by
                    rcases Nat.lt_or_ge r' r with h | h
                    · exact h
                    · exfalso
                      have h5 : d * 2 ^ (r + 1) ≤ d * 2 ^ k := Nat.mul_le_mul_left _ (Nat.pow_le_pow_right (by omega) (by omega))
                      have h6 := hC.out
                      rw [Nat.pow_succ, ← Nat.mul_assoc, ← h6, ← hS.out] at h5
                      omega
                  exact absurd h4 (hno.out r' hrr)
            clear hno hX hC
            go_wp2
            go_ret
            exact ⟨rfl, rfl⟩
def sml : List Nat := [2, 3, 5, 7, 11, 13, 61]
/-- What the program takes for a prime. -/
def PrimeP (n : Nat) : Prop := 2 ≤ n ∧ (n ∈ sml ∨ ((∀ p ∈ sml, ¬ p ∣ n) ∧ Ps n))
/-- What the reference takes for a prime. -/
def RefP (n : Nat) : Prop := (n = 2 ∨ n = 7 ∨ n = 61) ∨ (2 < n ∧ n % 2 = 1 ∧ 0 < n % 7 ∧ 0 < n % 61 ∧ Ps n)
theorem sml_sp : ∀ p ∈ sml, p ∈ sp := by decide
theorem PrimeP.pr {n : Nat} (h : PrimeP n) (hn : n < 2147483648) : Pr n := by
  obtain ⟨h2, h3 | ⟨h3, h4⟩⟩ := h
  · exact sp_pr (sml_sp n h3)
  · refine exact (by omega) hn ?_ ?_ ?_ h4
    · have := h3 2 (by simp [sml]); omega
    · exact fun h => h3 7 (by simp [sml]) (Nat.dvd_of_mod_eq_zero h)
    · exact fun h => h3 61 (by simp [sml]) (Nat.dvd_of_mod_eq_zero h)
theorem sp_of (a n d s : Nat) (h : (Nat.beq (n - 1) (d * 2 ^ s) && Nat.beq (d % 2) 1 && (Nat.beq (a ^ d % n) 1 || (List.range s).any fun r => Nat.beq (a ^ (d * 2 ^ r) % n) (n - 1))) = true) : Sp a n := by
  rw [Bool.and_eq_true, Bool.and_eq_true, Bool.or_eq_true] at h
  obtain ⟨⟨h1, h2⟩, h3⟩ := h
  refine ⟨d, s, beqN.1 h1, beqN.1 h2, ?_⟩
  rcases h3 with h3 | h3
  · exact Or.inl (beqN.1 h3)
  · rw [List.any_eq_true] at h3
    obtain ⟨r, hr, h4⟩ := h3
    exact Or.inr ⟨r, by simpa using hr, beqN.1 h4⟩
theorem ps_small : Ps 3 ∧ Ps 5 ∧ Ps 11 ∧ Ps 13 :=
  ⟨⟨sp_of 2 3 1 1 (by decide +kernel), sp_of 7 3 1 1 (by decide +kernel), sp_of 61 3 1 1 (by decide +kernel)⟩,
   ⟨sp_of 2 5 1 2 (by decide +kernel), sp_of 7 5 1 2 (by decide +kernel), sp_of 61 5 1 2 (by decide +kernel)⟩,
   ⟨sp_of 2 11 5 1 (by decide +kernel), sp_of 7 11 5 1 (by decide +kernel), sp_of 61 11 5 1 (by decide +kernel)⟩,
   ⟨sp_of 2 13 3 2 (by decide +kernel), sp_of 7 13 3 2 (by decide +kernel), sp_of 61 13 3 2 (by decide +kernel)⟩⟩
theorem prime_iff {n : Nat} (hn : n < 2147483648) : PrimeP n ↔ RefP n := by
  constructor
  · rintro ⟨h2, h3 | ⟨h3, h4⟩⟩
    · obtain ⟨p3, p5, p11, p13⟩ := ps_small
      simp only [sml, List.mem_cons, List.not_mem_nil, or_false] at h3
      rcases h3 with rfl | rfl | rfl | rfl | rfl | rfl | rfl
      · exact Or.inl (Or.inl rfl)
      · exact Or.inr ⟨by omega, by omega, by omega, by omega, p3⟩
      · exact Or.inr ⟨by omega, by omega, by omega, by omega, p5⟩
      · exact Or.inl (Or.inr (Or.inl rfl))
      · exact Or.inr ⟨by omega, by omega, by omega, by omega, p11⟩
      · exact Or.inr ⟨by omega, by omega, by omega, by omega, p13⟩
      · exact Or.inl (Or.inr (Or.inr rfl))
    · have h5 := h3 2 (by simp [sml])
      have h6 := h3 7 (by simp [sml])
      have h7 := h3 61 (by simp [sml])
      exact Or.inr ⟨by omega, by omega, by omega, by omega, h4⟩
  · rintro (h | ⟨h2, h3, h4, h5, h6⟩)
    · rcases h with rfl | rfl | rfl
      · exact ⟨by omega, Or.inl (by simp [sml])⟩
      · exact ⟨by omega, Or.inl (by simp [sml])⟩
      · exact ⟨by omega, Or.inl (by simp [sml])⟩
    · have hp := exact (show 1 < n by omega) hn h3 (by omega) (by omega) h6
      refine ⟨by omega, ?_⟩
      by_cases hm : n ∈ sml
      · exact Or.inl hm
      · refine Or.inr ⟨fun p hpm hd => hm ?_, h6⟩
        have := (sp_pr (sml_sp p hpm)).eq_of_dvd hp hd
        rw [← this]; exact hpm
end Go.Proofs.Ytnjblppapmflhaa

/- Walks: whether a number is a prime, by the program and by the reference. -/
namespace Go.Proofs.Ytnjblppapmflhaa
set_option linter.all false
open Go.RowKit Go.Shelf PN
theorem sml_eq {p n : Nat} (hp : p ∈ sml) (h2 : 2 ≤ n) (hd : p ∣ n) : PrimeP n ↔ n = p := by
  constructor
  · rintro ⟨_, h3 | ⟨h3, _⟩⟩
    · exact ((sp_pr (sml_sp p hp)).eq_of_dvd (sp_pr (sml_sp n h3)) hd).symm
    · exact absurd hd (h3 p hp)
  · rintro rfl
    exact ⟨h2, Or.inl hp⟩
theorem no_div (n : Nat) : (∀ j, j < 7 → ∀ p, sml[j]? = some p → ¬ p ∣ n) → ∀ p ∈ sml, ¬ p ∣ n := by
  intro h p hp
  obtain ⟨j, hj, rfl⟩ := List.mem_iff_getElem.1 hp
  exact h j (by simpa [sml] using hj) _ (List.getElem?_eq_getElem hj)
theorem no_div_succ {n k q : Nat} (h : ∀ j, j < k → ∀ p, sml[j]? = some p → ¬ p ∣ n) (hq : sml[k]? = some q) (hd : ¬ q ∣ n) : ∀ j, j < k + 1 → ∀ p, sml[j]? = some p → ¬ p ∣ n := by
  intro j hj p hp
  rcases (show j < k ∨ j = k by omega) with h1 | rfl
  · exact h j h1 p hp
  · rw [hq] at hp
    injection hp with hp
    rw [← hp]; exact hd
theorem prime_ps {n : Nat} (h2 : 2 ≤ n) (h : ∀ p ∈ sml, ¬ p ∣ n) : PrimeP n ↔ Ps n := by
  constructor
  · rintro ⟨_, h3 | ⟨_, h4⟩⟩
    · exact absurd (Nat.dvd_refl n) (h n h3)
    · exact h4
  · exact fun h4 => ⟨h2, Or.inr ⟨h, h4⟩⟩
set_option maxRecDepth 100000 in
set_option maxHeartbeats 8000000 in
theorem Prime_any (n : Nat) (hn : n < 4294967296) (b : Bool) (hb : b = true ↔ PrimeP n) (w : World) :
    Calls Try.prog 50 #[.int .u32 (n : Int)] w fun e w' => e = .returned (.bool b) ∧ Below w.heap.size w w' := by
  have HB := Lib.hid hb
  clear hb
  by_cases h2 : 2 ≤ n
  · have h2' : ¬ (n : Int) < 2 := by omega
    obtain ⟨b2, hb2⟩ := em_bool (Sp 2 n)
    obtain ⟨b7, hb7⟩ := em_bool (Sp 7 n)
    obtain ⟨b61, hb61⟩ := em_bool (Sp 61 n)
    have HB2 := Lib.hid hb2
    have HB7 := Lib.hid hb7
    have HB61 := Lib.hid hb61
    clear hb2 hb7 hb61
    have i70 : ∀ w, (Instr.index 104 (.agg #[.int .u32 2, .int .u32 3, .int .u32 5, .int .u32 7, .int .u32 11, .int .u32 13, .int .u32 61]) (.int .i64 0)).run Try.prog w = .ok (.int .u32 2) w := fun _ => by kernel_rfl
    have i71 : ∀ w, (Instr.index 104 (.agg #[.int .u32 2, .int .u32 3, .int .u32 5, .int .u32 7, .int .u32 11, .int .u32 13, .int .u32 61]) (.int .i64 1)).run Try.prog w = .ok (.int .u32 3) w := fun _ => by kernel_rfl
    have i72 : ∀ w, (Instr.index 104 (.agg #[.int .u32 2, .int .u32 3, .int .u32 5, .int .u32 7, .int .u32 11, .int .u32 13, .int .u32 61]) (.int .i64 2)).run Try.prog w = .ok (.int .u32 5) w := fun _ => by kernel_rfl
    have i73 : ∀ w, (Instr.index 104 (.agg #[.int .u32 2, .int .u32 3, .int .u32 5, .int .u32 7, .int .u32 11, .int .u32 13, .int .u32 61]) (.int .i64 3)).run Try.prog w = .ok (.int .u32 7) w := fun _ => by kernel_rfl
    have i74 : ∀ w, (Instr.index 104 (.agg #[.int .u32 2, .int .u32 3, .int .u32 5, .int .u32 7, .int .u32 11, .int .u32 13, .int .u32 61]) (.int .i64 4)).run Try.prog w = .ok (.int .u32 11) w := fun _ => by kernel_rfl
    have i75 : ∀ w, (Instr.index 104 (.agg #[.int .u32 2, .int .u32 3, .int .u32 5, .int .u32 7, .int .u32 11, .int .u32 13, .int .u32 61]) (.int .i64 5)).run Try.prog w = .ok (.int .u32 13) w := fun _ => by kernel_rfl
    have i76 : ∀ w, (Instr.index 104 (.agg #[.int .u32 2, .int .u32 3, .int .u32 5, .int .u32 7, .int .u32 11, .int .u32 13, .int .u32 61]) (.int .i64 6)).run Try.prog w = .ok (.int .u32 61) w := fun _ => by kernel_rfl
    have i30 : ∀ w, (Instr.index 105 (.agg #[.int .u32 2, .int .u32 7, .int .u32 61]) (.int .i64 0)).run Try.prog w = .ok (.int .u32 2) w := fun _ => by kernel_rfl
    have i31 : ∀ w, (Instr.index 105 (.agg #[.int .u32 2, .int .u32 7, .int .u32 61]) (.int .i64 1)).run Try.prog w = .ok (.int .u32 7) w := fun _ => by kernel_rfl
    have i32 : ∀ w, (Instr.index 105 (.agg #[.int .u32 2, .int .u32 7, .int .u32 61]) (.int .i64 2)).run Try.prog w = .ok (.int .u32 61) w := fun _ => by kernel_rfl
    go_enter Try.func50, Try.ntmps50
    go_wp2_with fail
    go_loop [10] (fun iv => ∃ k : Nat, iv = .int .i64 (k : Int) ∧ k ≤ 7 ∧ Hid (∀ j, j < k → ∀ p, sml[j]? = some p → ¬ p ∣ n)) (fun iv => 7 - (intOf iv).toNat)
    case atStart => exact ⟨0, rfl, by omega, fun j hj => by omega⟩
    case round =>
      obtain ⟨k, rfl, hk, hno⟩ := hrel
      rcases (show k = 0 ∨ k = 1 ∨ k = 2 ∨ k = 3 ∨ k = 4 ∨ k = 5 ∨ k = 6 ∨ k = 7 by omega) with rfl | rfl | rfl | rfl | rfl | rfl | rfl | rfl
      · by_cases hd : 2 ∣ n
        · have e1 : (n : Int) % 2 = 0 := by omega
          have hiff := sml_eq (p := 2) (n := n) (by simp [sml]) h2 hd
          clear hno hd
          by_cases hp : n = 2
          · obtain rfl : b = true := HB.out.2 (hiff.2 hp)
            have e2 : ((n : Int) == 2) = true := by rw [beq_iff_eq]; omega
            clear hp hiff
            go_wp2
            go_ret
            exact ⟨rfl, Below.refl _ _⟩
          · obtain rfl : b = false := by
              cases h : b
              · rfl
              · exact absurd (hiff.1 (HB.out.1 h)) hp
            have e2 : ((n : Int) == 2) = false := by rw [beq_eq_false_iff_ne]; omega
            clear hp hiff
            go_wp2
            go_ret
            exact ⟨rfl, Below.refl _ _⟩
        · have e1 : ((n : Int) % 2 == 0) = false := by rw [beq_eq_false_iff_ne]; omega
          have HNO := Lib.hid (no_div_succ hno.out (q := 2) rfl hd)
          clear hno hd
          go_wp2_with fail
          go_round
          case rel => exact ⟨1, rfl, by omega, HNO.out⟩
          case measure => simp [intOf]
      · by_cases hd : 3 ∣ n
        · have e1 : (n : Int) % 3 = 0 := by omega
          have hiff := sml_eq (p := 3) (n := n) (by simp [sml]) h2 hd
          clear hno hd
          by_cases hp : n = 3
          · obtain rfl : b = true := HB.out.2 (hiff.2 hp)
            have e2 : ((n : Int) == 3) = true := by rw [beq_iff_eq]; omega
            clear hp hiff
            go_wp2
            go_ret
            exact ⟨rfl, Below.refl _ _⟩
          · obtain rfl : b = false := by
              cases h : b
              · rfl
              · exact absurd (hiff.1 (HB.out.1 h)) hp
            have e2 : ((n : Int) == 3) = false := by rw [beq_eq_false_iff_ne]; omega
            clear hp hiff
            go_wp2
            go_ret
            exact ⟨rfl, Below.refl _ _⟩
        · have e1 : ((n : Int) % 3 == 0) = false := by rw [beq_eq_false_iff_ne]; omega
          have HNO := Lib.hid (no_div_succ hno.out (q := 3) rfl hd)
          clear hno hd
          go_wp2_with fail
          go_round
          case rel => exact ⟨2, rfl, by omega, HNO.out⟩
          case measure => simp [intOf]
      · by_cases hd : 5 ∣ n
        · have e1 : (n : Int) % 5 = 0 := by omega
          have hiff := sml_eq (p := 5) (n := n) (by simp [sml]) h2 hd
          clear hno hd
          by_cases hp : n = 5
          · obtain rfl : b = true := HB.out.2 (hiff.2 hp)
            have e2 : ((n : Int) == 5) = true := by rw [beq_iff_eq]; omega
            clear hp hiff
            go_wp2
            go_ret
            exact ⟨rfl, Below.refl _ _⟩
          · obtain rfl : b = false := by
              cases h : b
              · rfl
              · exact absurd (hiff.1 (HB.out.1 h)) hp
            have e2 : ((n : Int) == 5) = false := by rw [beq_eq_false_iff_ne]; omega
            clear hp hiff
            go_wp2
            go_ret
            exact ⟨rfl, Below.refl _ _⟩
        · have e1 : ((n : Int) % 5 == 0) = false := by rw [beq_eq_false_iff_ne]; omega
          have HNO := Lib.hid (no_div_succ hno.out (q := 5) rfl hd)
          clear hno hd
          go_wp2_with fail
          go_round
          case rel => exact ⟨3, rfl, by omega, HNO.out⟩
          case measure => simp [intOf]
      · by_cases hd : 7 ∣ n
        · have e1 : (n : Int) % 7 = 0 := by omega
          have hiff := sml_eq (p := 7) (n := n) (by simp [sml]) h2 hd
          clear hno hd
          by_cases hp : n = 7
          · obtain rfl : b = true := HB.out.2 (hiff.2 hp)
            have e2 : ((n : Int) == 7) = true := by rw [beq_iff_eq]; omega
            clear hp hiff
            go_wp2
            go_ret
            exact ⟨rfl, Below.refl _ _⟩
          · obtain rfl : b = false := by
              cases h : b
              · rfl
              · exact absurd (hiff.1 (HB.out.1 h)) hp
            have e2 : ((n : Int) == 7) = false := by rw [beq_eq_false_iff_ne]; omega
            clear hp hiff
            go_wp2
            go_ret
            exact ⟨rfl, Below.refl _ _⟩
        · have e1 : ((n : Int) % 7 == 0) = false := by rw [beq_eq_false_iff_ne]; omega
          have HNO := Lib.hid (no_div_succ hno.out (q := 7) rfl hd)
          clear hno hd
          go_wp2_with fail
          go_round
          case rel => exact ⟨4, rfl, by omega, HNO.out⟩
          case measure => simp [intOf]
      · by_cases hd : 11 ∣ n
        · have e1 : (n : Int) % 11 = 0 := by omega
          have hiff := sml_eq (p := 11) (n := n) (by simp [sml]) h2 hd
          clear hno hd
          by_cases hp : n = 11
          · obtain rfl : b = true := HB.out.2 (hiff.2 hp)
            have e2 : ((n : Int) == 11) = true := by rw [beq_iff_eq]; omega
            clear hp hiff
            go_wp2
            go_ret
            exact ⟨rfl, Below.refl _ _⟩
          · obtain rfl : b = false := by
              cases h : b
              · rfl
              · exact absurd (hiff.1 (HB.out.1 h)) hp
            have e2 : ((n : Int) == 11) = false := by rw [beq_eq_false_iff_ne]; omega
            clear hp hiff
            go_wp2
            go_ret
            exact ⟨rfl, Below.refl _ _⟩
        · have e1 : ((n : Int) % 11 == 0) = false := by rw [beq_eq_false_iff_ne]; omega
          have HNO := Lib.hid (no_div_succ hno.out (q := 11) rfl hd)
          clear hno hd
          go_wp2_with fail
          go_round
          case rel => exact ⟨5, rfl, by omega, HNO.out⟩
          case measure => simp [intOf]
      · by_cases hd : 13 ∣ n
        · have e1 : (n : Int) % 13 = 0 := by omega
          have hiff := sml_eq (p := 13) (n := n) (by simp [sml]) h2 hd
          clear hno hd
          by_cases hp : n = 13
          · obtain rfl : b = true := HB.out.2 (hiff.2 hp)
            have e2 : ((n : Int) == 13) = true := by rw [beq_iff_eq]; omega
            clear hp hiff
            go_wp2
            go_ret
            exact ⟨rfl, Below.refl _ _⟩
          · obtain rfl : b = false := by
              cases h : b
              · rfl
              · exact absurd (hiff.1 (HB.out.1 h)) hp
            have e2 : ((n : Int) == 13) = false := by rw [beq_eq_false_iff_ne]; omega
            clear hp hiff
            go_wp2
            go_ret
            exact ⟨rfl, Below.refl _ _⟩
        · have e1 : ((n : Int) % 13 == 0) = false := by rw [beq_eq_false_iff_ne]; omega
          have HNO := Lib.hid (no_div_succ hno.out (q := 13) rfl hd)
          clear hno hd
          go_wp2_with fail
          go_round
          case rel => exact ⟨6, rfl, by omega, HNO.out⟩
          case measure => simp [intOf]
      · by_cases hd : 61 ∣ n
        · have e1 : (n : Int) % 61 = 0 := by omega
          have hiff := sml_eq (p := 61) (n := n) (by simp [sml]) h2 hd
          clear hno hd
          by_cases hp : n = 61
          · obtain rfl : b = true := HB.out.2 (hiff.2 hp)
            have e2 : ((n : Int) == 61) = true := by rw [beq_iff_eq]; omega
            clear hp hiff
            go_wp2
            go_ret
            exact ⟨rfl, Below.refl _ _⟩
          · obtain rfl : b = false := by
              cases h : b
              · rfl
              · exact absurd (hiff.1 (HB.out.1 h)) hp
            have e2 : ((n : Int) == 61) = false := by rw [beq_eq_false_iff_ne]; omega
            clear hp hiff
            go_wp2
            go_ret
            exact ⟨rfl, Below.refl _ _⟩
        · have e1 : ((n : Int) % 61 == 0) = false := by rw [beq_eq_false_iff_ne]; omega
          have HNO := Lib.hid (no_div_succ hno.out (q := 61) rfl hd)
          clear hno hd
          go_wp2_with fail
          go_round
          case rel => exact ⟨7, rfl, by omega, HNO.out⟩
          case measure => simp [intOf]
      · have hall := no_div n hno.out
        have hps := prime_ps h2 hall
        have HPS := Lib.hid hps
        have h3 : n % 2 = 1 := by have := hall 2 (by simp [sml]); omega
        have h4 : 2 < n := by omega
        have HC2 : Hid (∀ W : World, Calls Try.prog 75 #[.int .u32 2, .int .u32 (n : Int)] W fun e w' => e = .returned (.bool b2) ∧ Below W.heap.size W w') := fun W => passes_any 2 n (by omega) h4 h3 hn b2 HB2.out W
        have HC7 : Hid (∀ W : World, Calls Try.prog 75 #[.int .u32 7, .int .u32 (n : Int)] W fun e w' => e = .returned (.bool b7) ∧ Below W.heap.size W w') := fun W => passes_any 7 n (by omega) h4 h3 hn b7 HB7.out W
        have HC61 : Hid (∀ W : World, Calls Try.prog 75 #[.int .u32 61, .int .u32 (n : Int)] W fun e w' => e = .returned (.bool b61) ∧ Below W.heap.size W w') := fun W => passes_any 61 n (by omega) h4 h3 hn b61 HB61.out W
        have hbb : b = (b2 && (b7 && b61)) := by
          rw [Bool.eq_iff_iff, HB.out, hps]
          simp [Ps, HB2.out, HB7.out, HB61.out]
        clear hno hall hps h3 h4
        go_wp2_with fail
        go_loopw [22] (fun iv wr => ∃ k : Nat, iv = .int .i64 (k : Int) ∧ k ≤ 3 ∧ (0 < k → b2 = true) ∧ (1 < k → b7 = true) ∧ (2 < k → b61 = true) ∧ Below w.heap.size w wr) (fun iv _ => 3 - (intOf iv).toNat)
        case atStart => exact ⟨0, rfl, by omega, fun h => by omega, fun h => by omega, fun h => by omega, Below.refl _ _⟩
        case round =>
          obtain ⟨k, rfl, hk, k2, k7, k61, hbl⟩ := hrel
          have HBL := Lib.hid hbl
          clear hbl
          rcases (show k = 0 ∨ k = 1 ∨ k = 2 ∨ k = 3 by omega) with rfl | rfl | rfl | rfl
          · clear k2 k7 k61
            go_wp2_with fail
            (with_reducible refine (HC2.out _).mono ?_)
            rintro e w1 ⟨rfl, hb1⟩
            have HB1 := Lib.hid (HBL.out.trans (hb1.mono HBL.out.size))
            clear hb1
            cases hbv : b2 with
            | false =>
              obtain rfl : b = false := by rw [hbb, hbv]; simp
              clear hbb
              go_wp2
              go_ret
              exact ⟨rfl, HB1.out⟩
            | true =>
              clear hbb
              go_wp2_with fail
              go_roundw
              case rel => exact ⟨1, rfl, by omega, fun _ => hbv, fun h => by omega, fun h => by omega, HB1.out⟩
              case measure => simp [intOf]
          · have K2 := k2 (by omega)
            clear k2 k7 k61
            go_wp2_with fail
            (with_reducible refine (HC7.out _).mono ?_)
            rintro e w1 ⟨rfl, hb1⟩
            have HB1 := Lib.hid (HBL.out.trans (hb1.mono HBL.out.size))
            clear hb1
            cases hbv : b7 with
            | false =>
              obtain rfl : b = false := by rw [hbb, hbv]; simp
              clear hbb
              go_wp2
              go_ret
              exact ⟨rfl, HB1.out⟩
            | true =>
              clear hbb
              go_wp2_with fail
              go_roundw
              case rel => exact ⟨2, rfl, by omega, fun _ => K2, fun _ => hbv, fun h => by omega, HB1.out⟩
              case measure => simp [intOf]
          · have K2 := k2 (by omega)
            have K7 := k7 (by omega)
            clear k2 k7 k61
            go_wp2_with fail
            (with_reducible refine (HC61.out _).mono ?_)
            rintro e w1 ⟨rfl, hb1⟩
            have HB1 := Lib.hid (HBL.out.trans (hb1.mono HBL.out.size))
            clear hb1
            cases hbv : b61 with
            | false =>
              obtain rfl : b = false := by rw [hbb, hbv]; simp
              clear hbb
              go_wp2
              go_ret
              exact ⟨rfl, HB1.out⟩
            | true =>
              clear hbb
              go_wp2_with fail
              go_roundw
              case rel => exact ⟨3, rfl, by omega, fun _ => K2, fun _ => K7, fun _ => hbv, HB1.out⟩
              case measure => simp [intOf]
          · obtain rfl : b = true := by rw [hbb, k2 (by omega), k7 (by omega), k61 (by omega)]; rfl
            clear hbb k2 k7 k61
            go_wp2
            go_ret
            exact ⟨rfl, HBL.out⟩
  · have h2' : (n : Int) < 2 := by omega
    obtain rfl : b = false := by
      cases h : b
      · rfl
      · have := (HB.out.1 h).1; omega
    clear h2
    go_enter Try.func50, Try.ntmps50
    go_wp2
    go_ret
    exact ⟨rfl, Below.refl _ _⟩
set_option maxHeartbeats 8000000 in
theorem Prime01_any (n : Nat) (hn : n < 4294967296) (b : Bool) (hb : b = true ↔ RefP n) (w : World) :
    Calls Try.prog 65 #[.int .u32 (n : Int)] w fun e w' => e = .returned (.bool b) ∧ w = w' := by
  have HB := Lib.hid hb
  clear hb
  by_cases h1 : n = 2 ∨ n = 7 ∨ n = 61
  · obtain rfl : b = true := HB.out.2 (Or.inl h1)
    rcases h1 with rfl | rfl | rfl <;>
    · go_enter Try.func65, Try.ntmps65
      go_wp2
      go_ret
      exact ⟨rfl, rfl⟩
  · have t2 : ((n : Int) == 2) = false := by rw [beq_eq_false_iff_ne]; omega
    have t7 : ((n : Int) == 7) = false := by rw [beq_eq_false_iff_ne]; omega
    have t61 : ((n : Int) == 61) = false := by rw [beq_eq_false_iff_ne]; omega
    by_cases h2 : 2 < n ∧ n % 2 = 1 ∧ 0 < n % 7 ∧ 0 < n % 61
    · obtain ⟨g1, g2, g3, g4⟩ := h2
      have u1 : (2 : Int) < (n : Int) := by omega
      have u2 : ((n : Int) % 2 == 1) = true := by rw [beq_iff_eq]; omega
      have u2' : (n : Int) % 2 = 1 := by omega
      have u3 : (0 : Int) < (n : Int) % 7 := by omega
      have u4 : (0 : Int) < (n : Int) % 61 := by omega
      obtain ⟨b2, hb2⟩ := em_bool (Sp 2 n)
      obtain ⟨b7, hb7⟩ := em_bool (Sp 7 n)
      obtain ⟨b61, hb61⟩ := em_bool (Sp 61 n)
      have HC2 : Hid (∀ W : World, Calls Try.prog 88 #[.int .u32 2, .int .u32 (n : Int)] W fun e w' => e = .returned (.bool b2) ∧ W = w') := fun W => strong_any 2 n (by omega) g1 g2 hn b2 hb2 W
      have HC7 : Hid (∀ W : World, Calls Try.prog 88 #[.int .u32 7, .int .u32 (n : Int)] W fun e w' => e = .returned (.bool b7) ∧ W = w') := fun W => strong_any 7 n (by omega) g1 g2 hn b7 hb7 W
      have HC61 : Hid (∀ W : World, Calls Try.prog 88 #[.int .u32 61, .int .u32 (n : Int)] W fun e w' => e = .returned (.bool b61) ∧ W = w') := fun W => strong_any 61 n (by omega) g1 g2 hn b61 hb61 W
      obtain rfl : b = (b2 && (b7 && b61)) := by
        rw [Bool.eq_iff_iff, HB.out]
        constructor
        · rintro (h | ⟨_, _, _, _, h⟩)
          · exact absurd h h1
          · simp [hb2, hb7, hb61]; exact h
        · intro h
          refine Or.inr ⟨g1, g2, g3, g4, ?_⟩
          simp [hb2, hb7, hb61] at h
          exact h
      clear HB hb2 hb7 hb61 h1 g2 g3 g4
      go_enter Try.func65, Try.ntmps65
      go_wp2_with fail
      (with_reducible refine (HC2.out _).mono ?_)
      rintro e w1 ⟨rfl, rfl⟩
      cases b2 with
      | false =>
        go_wp2
        go_ret
        exact ⟨rfl, rfl⟩
      | true =>
        go_wp2_with fail
        (with_reducible refine (HC7.out _).mono ?_)
        rintro e w1 ⟨rfl, rfl⟩
        cases b7 with
        | false =>
          go_wp2
          go_ret
          exact ⟨rfl, rfl⟩
        | true =>
          go_wp2_with fail
          (with_reducible refine (HC61.out _).mono ?_)
          rintro e w1 ⟨rfl, rfl⟩
          go_wp2
          go_ret
          exact ⟨rfl, rfl⟩
    · obtain rfl : b = false := by
        cases h : b
        · rfl
        · rcases HB.out.1 h with h3 | ⟨g1, g2, g3, g4, _⟩
          · exact absurd h3 h1
          · exact absurd ⟨g1, g2, g3, g4⟩ h2
      clear HB h1
      by_cases g1 : 2 < n
      · by_cases g2 : n % 2 = 1
        · by_cases g3 : 0 < n % 7
          · have g4 : ¬ 0 < n % 61 := fun h => h2 ⟨g1, g2, g3, h⟩
            have u1 : (2 : Int) < (n : Int) := by omega
            have u2 : ((n : Int) % 2 == 1) = true := by rw [beq_iff_eq]; omega
            have u2' : (n : Int) % 2 = 1 := by omega
            have u3 : (0 : Int) < (n : Int) % 7 := by omega
            have u4 : ¬ (0 : Int) < (n : Int) % 61 := by omega
            clear h2 g2 g3 g4
            go_enter Try.func65, Try.ntmps65
            go_wp2
            go_ret
            exact ⟨rfl, rfl⟩
          · have u1 : (2 : Int) < (n : Int) := by omega
            have u2 : ((n : Int) % 2 == 1) = true := by rw [beq_iff_eq]; omega
            have u2' : (n : Int) % 2 = 1 := by omega
            have u3 : ¬ (0 : Int) < (n : Int) % 7 := by omega
            clear h2 g2 g3
            go_enter Try.func65, Try.ntmps65
            go_wp2
            go_ret
            exact ⟨rfl, rfl⟩
        · have u1 : (2 : Int) < (n : Int) := by omega
          have u2 : ((n : Int) % 2 == 1) = false := by rw [beq_eq_false_iff_ne]; omega
          have u2' : (n : Int) % 2 = 0 := by omega
          clear h2 g2
          go_enter Try.func65, Try.ntmps65
          go_wp2
          go_ret
          exact ⟨rfl, rfl⟩
      · have u1 : ¬ (2 : Int) < (n : Int) := by omega
        clear h2
        go_enter Try.func65, Try.ntmps65
        go_wp2
        go_ret
        exact ⟨rfl, rfl⟩
end Go.Proofs.Ytnjblppapmflhaa
