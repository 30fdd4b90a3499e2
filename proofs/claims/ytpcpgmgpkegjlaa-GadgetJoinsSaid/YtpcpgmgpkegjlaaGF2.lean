/- Walks: the reference's inverse. -/
import Derived.Test.YtpcpgmgpkegjlaaGF1
namespace Go.Proofs.Ytpcpgmgpkegjlaa
open Go.RowKit Go.Shelf Go.BigFrame
/-- What the rule of Euclid leaves of the multiples. -/
def invX (r s : Nat) (x y : Int) : Int := if _h : s = 0 then x else invX s (r % s) y (wrap64 (x - wrap64 (((r / s : Nat) : Int) * y)))
termination_by s
decreasing_by exact Nat.mod_lt _ (Nat.pos_of_ne_zero (by assumption))
def invV (a m : Nat) : Int := (if Nat.gcd m a = 1 then (if invX m a 0 1 < 0 then wrap64 (invX m a 0 1 + (m : Int)) else invX m a 0 1) % 4294967296 else 0)
theorem invX_step (r s : Nat) (x y : Int) (h : s ≠ 0) : invX r s x y = invX s (r % s) y (wrap64 (x - wrap64 (((r / s : Nat) : Int) * y))) := by
  rw [invX, dif_neg h]
theorem invX_end (r : Nat) (x y : Int) : invX r 0 x y = x := by rw [invX]; simp
set_option maxHeartbeats 4000000 in
theorem inv05_any (a m : Nat) (w : World) (ha : a < 4294967296) (hm : m < 4294967296) :
    Calls Try.prog 55 #[.int .u32 (a : Int), .int .u32 (m : Int)] w fun e w' => e = .returned (.tuple #[.int .u32 (invV a m), .bool (decide (Nat.gcd m a = 1))]) ∧ w = w' := by
  obtain ⟨v, hv⟩ : ∃ v, v = invV a m := ⟨_, rfl⟩
  obtain ⟨g, hg⟩ : ∃ g, g = decide (Nat.gcd m a = 1) := ⟨_, rfl⟩
  rw [← hv, ← hg]
  have HV := Lib.hid hv
  have HG := Lib.hid hg
  clear hv hg
  go_enter Try.func55, Try.ntmps55
  go_wp2
  go_loop [6, 7, 8, 9] (fun r s x y => ∃ (rn sn : Nat) (xn yn : Int), rn < 4294967296 ∧ sn < 4294967296 ∧ r = .int .i64 (rn : Int) ∧ s = .int .i64 (sn : Int) ∧ x = .int .i64 xn ∧ y = .int .i64 yn ∧ Hid (Nat.gcd rn sn = Nat.gcd m a) ∧ Hid (invX rn sn xn yn = invX m a 0 1)) (fun _ s _ _ => (intOf s).toNat)
  case atStart => exact ⟨m, a, 0, 1, hm, ha, rfl, rfl, rfl, rfl, rfl, rfl⟩
  case round =>
    obtain ⟨r, s, x, y, hr, hs, rfl, rfl, rfl, rfl, hgcd, hinv⟩ := hrel
    by_cases hs0 : s = 0
    · have t0 : ((s : Int) != 0) = false := by rw [hs0]; rfl
      have hgr : r = Nat.gcd m a := by have := hgcd.out; rw [hs0, Nat.gcd_zero_right] at this; exact this
      have hxe : x = invX m a 0 1 := by have := hinv.out; rw [hs0, invX_end] at this; exact this
      have HGR := Lib.hid hgr
      have HXE := Lib.hid hxe
      clear hgcd hinv hs0 hgr hxe
      by_cases hr1 : r = 1
      · have t1 : ((r : Int) != 1) = false := by rw [hr1]; rfl
        obtain rfl : g = true := by rw [HG.out, decide_eq_true_eq, ← HGR.out]; exact hr1
        have hv2 : v = (if x < 0 then wrap64 (x + (m : Int)) else x) % 4294967296 := by rw [HV.out, HXE.out]; unfold invV; rw [if_pos (by rw [← HGR.out]; exact hr1)]
        have HV2 := Lib.hid hv2
        clear hr1 hv2
        by_cases hx0 : x < 0
        · obtain rfl : v = wrap64 (x + (m : Int)) % 4294967296 := by rw [HV2.out, if_pos hx0]
          go_wp2
          go_ret2
          exact ⟨rfl, rfl⟩
        · obtain rfl : v = x % 4294967296 := by rw [HV2.out, if_neg hx0]
          go_wp2
          go_ret2
          exact ⟨rfl, rfl⟩
      · have t1 : ((r : Int) != 1) = true := by rw [bne_iff_ne]; omega
        obtain rfl : g = false := by rw [HG.out, decide_eq_false_iff_not, ← HGR.out]; exact hr1
        obtain rfl : v = 0 := by rw [HV.out]; unfold invV; rw [if_neg (by rw [← HGR.out]; exact hr1)]
        clear hr1
        go_wp2
        go_ret2
        exact ⟨rfl, rfl⟩
    · have t0 : ((s : Int) != 0) = true := by rw [bne_iff_ne]; omega
      obtain ⟨k, hk⟩ : ∃ k, k = r / s := ⟨_, rfl⟩
      obtain ⟨t, ht⟩ : ∃ t, t = r % s := ⟨_, rfl⟩
      have hkr : k ≤ r := by rw [hk]; exact Nat.div_le_self _ _
      have hts : t < s := by rw [ht]; exact Nat.mod_lt _ (by omega)
      have hdm : s * k + t = r := by rw [hk, ht]; exact Nat.div_add_mod r s
      obtain ⟨ks, hks⟩ : ∃ ks, ks = k * s := ⟨_, rfl⟩
      have e0 : (r : Int) / (s : Int) = (k : Int) := by rw [hk]; simp
      have e1 : (k : Int) * (s : Int) = (ks : Int) := by rw [hks]; simp
      have e2 : (r : Int) - (ks : Int) = (t : Int) := by rw [hks, Nat.mul_comm]; omega
      have hks2 : ks ≤ r := by rw [hks, Nat.mul_comm]; omega
      have HK := Lib.hid hk
      have HT := Lib.hid ht
      have hs1 : 0 < s := by omega
      clear hk ht hks hdm hs0
      go_wp2
      refine ⟨⟨s, t, y, _, hs, by omega, rfl, rfl, rfl, rfl, ?_, ?_⟩, by simp [intOf]; omega⟩
      · show Nat.gcd s t = _
        rw [← hgcd.out, HT.out, Nat.gcd_comm s, ← Nat.gcd_rec, Nat.gcd_comm]
      · show invX s t y _ = _
        rw [← hinv.out, invX_step r s x y (by omega), HT.out, HK.out]
end Go.Proofs.Ytpcpgmgpkegjlaa
