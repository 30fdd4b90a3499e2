/- Plain: whatever passes the strong tests to the bases 2, 7 and 61 below 2^31 is a prime. -/
import Derived.Test.YtkjlfjnncdkmlaaGreatPN5
import Derived.Test.YtkjlfjnncdkmlaaGreatPN6
import Derived.Test.YtkjlfjnncdkmlaaGreatPN7
set_option linter.all false
set_option maxRecDepth 100000
set_option maxHeartbeats 40000000
namespace Go.Proofs.YtkjlfjnncdkmlaaGreat.PN

def PL.drop : Nat → PL → PL
 | 0, t => t
 | _ + 1, .nil => .nil
 | f + 1, .cons _ _ t => t.drop f
/-- All primes of n are in the list, and n fits to it. -/
def PL.fits (n : Nat) (t : PL) : Prop := t.good n ∧ ∀ s, Pr s → s ∣ n → t.mem s
theorem tops_sound {n : Nat} (h0 : 2000 < n) (h1 : n < nn) (ho : n % 2 = 1) (hs : Ps n) : ∀ (f : Nat) (t : PL), tops f t = true → t.fits n → (t.drop f).fits n
 | 0, t, _, hg => hg
 | f + 1, .nil, _, hg => hg
 | f + 1, .cons q d t, h, ⟨hg, hm⟩ => by
  obtain ⟨h2, h3⟩ := condF h
  obtain ⟨g1, g2, g3, g4⟩ := hg
  by_cases hq : q ∣ n
  ·obtain ⟨k, hk⟩ := hq
   obtain ⟨D', hD', hF⟩ := br_sound h2 (show n = 1 * q * k by rw [Nat.one_mul]; exact hk) (Nat.one_dvd _) (g1 ⟨k, hk⟩) h0 h1 ho hs
   refine (dfs_sound h0 h1 ho hs t (1 * q) D' k hF g4 hD' (by rw [Nat.one_mul]; exact hk) fun s hsp hd2 => ?_).elim
   rcases hm s hsp (Nat.dvd_trans hd2 ⟨q, by rw [hk, Nat.mul_comm]⟩) with h4 | h4
   ·subst h4
    obtain ⟨i, rfl⟩ := hd2
    exact absurd ⟨i, by rw [hk, Nat.mul_assoc]⟩ g3
   ·exact h4
  ·refine tops_sound h0 h1 ho hs f t h3 ⟨g4, fun s hsp hd2 => ?_⟩
   rcases hm s hsp hd2 with h4 | h4
   ·subst h4; exact absurd hd2 hq
   ·exact h4
theorem small_none {n : Nat} (h0 : 2000 < n) (h1 : n < nn) (ho : n % 2 = 1) (hs : Ps n) (hm : ∀ s, Pr s → s ∣ n → pl20.mem s) : False := by
 have f20 : pl20.fits n := ⟨okPL_sound (by omega) hs _ pl_ok, hm⟩
 have f19 : pl19.fits n := tops_sound h0 h1 ho hs 15 pl20 top20 f20
 have f18 : pl18.fits n := tops_sound h0 h1 ho hs 15 pl19 top19 f19
 have f17 : pl17.fits n := tops_sound h0 h1 ho hs 15 pl18 top18 f18
 have f16 : pl16.fits n := tops_sound h0 h1 ho hs 15 pl17 top17 f17
 have f15 : pl15.fits n := tops_sound h0 h1 ho hs 15 pl16 top16 f16
 have f14 : pl14.fits n := tops_sound h0 h1 ho hs 15 pl15 top15 f15
 have f13 : pl13.fits n := tops_sound h0 h1 ho hs 15 pl14 top14 f14
 have f12 : pl12.fits n := tops_sound h0 h1 ho hs 15 pl13 top13 f13
 have f11 : pl11.fits n := tops_sound h0 h1 ho hs 15 pl12 top12 f12
 have f10 : pl10.fits n := tops_sound h0 h1 ho hs 15 pl11 top11 f11
 have f9 : pl9.fits n := tops_sound h0 h1 ho hs 15 pl10 top10 f10
 have f8 : pl8.fits n := tops_sound h0 h1 ho hs 15 pl9 top9 f9
 have f7 : pl7.fits n := tops_sound h0 h1 ho hs 15 pl8 top8 f8
 have f6 : pl6.fits n := tops_sound h0 h1 ho hs 15 pl7 top7 f7
 have f5 : pl5.fits n := tops_sound h0 h1 ho hs 15 pl6 top6 f6
 have f4 : pl4.fits n := tops_sound h0 h1 ho hs 15 pl5 top5 f5
 have f3 : pl3.fits n := tops_sound h0 h1 ho hs 15 pl4 top4 f4
 have f2 : pl2.fits n := tops_sound h0 h1 ho hs 15 pl3 top3 f3
 have f1 : pl1.fits n := tops_sound h0 h1 ho hs 15 pl2 top2 f2
 have f0 : pl0.fits n := tops_sound h0 h1 ho hs 15 pl1 top1 f1
 obtain ⟨s, hsp, hd⟩ := exists_prime (show 2 ≤ n by omega)
 exact f0.2 s hsp hd
theorem big_none {p : Nat} (h0 : 2000 < p) (h1 : p ≤ 46341) (ho : p % 2 = 1) : bigOne p = true := by
 have key : ∀ (f q : Nat), bigs f q = true → q % 2 = 1 → q ≤ p → p < q + 2 * f → bigOne p = true := fun f q h h2 h3 h4 => by
  have := bigs_sound f q h ((p - q) / 2) (by omega)
  rwa [show q + 2 * ((p - q) / 2) = p by omega] at this
 rcases Nat.lt_or_ge p 3001 with c0 | c0
 ·exact key 500 2001 bigs0 (by omega) (by omega) (by omega)
 rcases Nat.lt_or_ge p 4001 with c1 | c1
 ·exact key 500 3001 bigs1 (by omega) (by omega) (by omega)
 rcases Nat.lt_or_ge p 5001 with c2 | c2
 ·exact key 500 4001 bigs2 (by omega) (by omega) (by omega)
 rcases Nat.lt_or_ge p 8001 with c3 | c3
 ·exact key 1500 5001 bigs3 (by omega) (by omega) (by omega)
 rcases Nat.lt_or_ge p 11001 with c4 | c4
 ·exact key 1500 8001 bigs4 (by omega) (by omega) (by omega)
 rcases Nat.lt_or_ge p 14001 with c5 | c5
 ·exact key 1500 11001 bigs5 (by omega) (by omega) (by omega)
 rcases Nat.lt_or_ge p 22001 with c6 | c6
 ·exact key 4000 14001 bigs6 (by omega) (by omega) (by omega)
 rcases Nat.lt_or_ge p 30001 with c7 | c7
 ·exact key 4000 22001 bigs7 (by omega) (by omega) (by omega)
 rcases Nat.lt_or_ge p 38001 with c8 | c8
 ·exact key 4000 30001 bigs8 (by omega) (by omega) (by omega)
 rcases Nat.lt_or_ge p 46001 with c9 | c9
 ·exact key 4000 38001 bigs9 (by omega) (by omega) (by omega)
 exact key 171 46001 bigs10 (by omega) (by omega) (by omega)
theorem loop_none {k : Nat} (h0 : 2 < k) (h1 : k ≤ 46341) (ho : k % 2 = 1) : oneK bigM k = true := by
 have key : ∀ (f q : Nat), (fz bigM fun M => loopK f M q) = true → q % 2 = 1 → q ≤ k → k < q + 2 * f → oneK bigM k = true := fun f q h h2 h3 h4 => by
  rw [fz_eq] at h
  have := loopK_sound bigM f q h ((k - q) / 2) (by omega)
  rwa [show q + 2 * ((k - q) / 2) = k by omega] at this
 rcases Nat.lt_or_ge k 4803 with c0 | c0
 ·exact key 2400 3 loop0 (by omega) (by omega) (by omega)
 rcases Nat.lt_or_ge k 9603 with c1 | c1
 ·exact key 2400 4803 loop1 (by omega) (by omega) (by omega)
 rcases Nat.lt_or_ge k 14403 with c2 | c2
 ·exact key 2400 9603 loop2 (by omega) (by omega) (by omega)
 rcases Nat.lt_or_ge k 19203 with c3 | c3
 ·exact key 2400 14403 loop3 (by omega) (by omega) (by omega)
 rcases Nat.lt_or_ge k 24003 with c4 | c4
 ·exact key 2400 19203 loop4 (by omega) (by omega) (by omega)
 rcases Nat.lt_or_ge k 28803 with c5 | c5
 ·exact key 2400 24003 loop5 (by omega) (by omega) (by omega)
 rcases Nat.lt_or_ge k 33603 with c6 | c6
 ·exact key 2400 28803 loop6 (by omega) (by omega) (by omega)
 rcases Nat.lt_or_ge k 38403 with c7 | c7
 ·exact key 2400 33603 loop7 (by omega) (by omega) (by omega)
 rcases Nat.lt_or_ge k 43203 with c8 | c8
 ·exact key 2400 38403 loop8 (by omega) (by omega) (by omega)
 exact key 1570 43203 loop9 (by omega) (by omega) (by omega)
theorem odd_of {a b : Nat} (h : a * b % 2 = 1) : a % 2 = 1 ∧ b % 2 = 1 := by
 rw [Nat.mul_mod] at h
 rcases Nat.mod_two_eq_zero_or_one a with h1 | h1 <;> rcases Nat.mod_two_eq_zero_or_one b with h2 | h2 <;> rw [h1, h2] at h <;> simp at h
 exact ⟨h1, h2⟩
/-- Below 2^31 the strong tests to the bases 2, 7 and 61 are exact. -/
theorem exact {n : Nat} (h1 : 1 < n) (hn : n < 2147483648) (ho : n % 2 = 1) (h7 : n % 7 ≠ 0) (h61 : n % 61 ≠ 0) (hs : Ps n) : Pr n := by
  rcases Nat.lt_or_ge 2000 n with hbig | hsm
  · refine Classical.byContradiction fun hno => ?_
    obtain ⟨p, hp, hd, hmax⟩ := exists_largest (show 2 ≤ n by omega)
    obtain ⟨k, rfl⟩ := hd
    have hp0 := hp.pos
    obtain ⟨op, ok⟩ := odd_of ho
    have hk : 2 ≤ k := by
      rcases (show k = 0 ∨ k = 1 ∨ 2 ≤ k by omega) with rfl | rfl | h
      · omega
      · rw [Nat.mul_one] at hno; exact absurd hp hno
      · exact h
    rcases Nat.lt_or_ge 46341 p with c1 | c1
    · have hk2 : k ≤ 46341 := by
        rcases Nat.lt_or_ge 46341 k with h | h
        · have := Nat.mul_le_mul (show 46342 ≤ p from c1) (show 46342 ≤ k from h)
          omega
        · exact h
      exact oneK_sound hp c1 (loop_none (by omega) hk2 ok) hk hn ho hs
    · rcases Nat.lt_or_ge 2000 p with c2 | c2
      · exact bigOne_sound hp c2 (big_none c2 c1 op) hk hn ho hs
      · refine small_none hbig hn ho hs fun s hsp hd => ?_
        have h2 := hmax s hsp hd
        have h3 := complGo_sound 2001 0 compl_ok s (by omega)
        rw [Nat.zero_add, Bool.or_eq_true, Bool.or_eq_true, Bool.or_eq_true, Bool.or_eq_true] at h3
        rcases h3 with h3 | h3 | h3 | h3 | h3
        · exact memB_sound s _ h3
        · have := beqN.1 h3
          subst this
          have := Nat.mod_eq_zero_of_dvd hd
          omega
        · have := beqN.1 h3
          subst this
          exact absurd (Nat.mod_eq_zero_of_dvd hd) h7
        · have := beqN.1 h3
          subst this
          exact absurd (Nat.mod_eq_zero_of_dvd hd) h61
        · rw [(primeQ_iff (by omega)).2 hsp] at h3
          cases h3
  · have h2 := smallGo_sound 1999 2 small_ok (n - 2) (by omega)
    rw [show 2 + (n - 2) = n by omega, Bool.or_eq_true, Bool.or_eq_true, Bool.or_eq_true, Bool.or_eq_true] at h2
    rcases h2 with h2 | h2 | h2 | h2 | h2
    · exact (primeQ_iff (by omega)).1 h2
    · rw [fails_sound (by omega) ho hs] at h2
      cases h2
    · have : n % 2 = 0 := beqN.1 h2
      omega
    · exact absurd (beqN.1 h2) h7
    · exact absurd (beqN.1 h2) h61
end Go.Proofs.YtkjlfjnncdkmlaaGreat.PN
