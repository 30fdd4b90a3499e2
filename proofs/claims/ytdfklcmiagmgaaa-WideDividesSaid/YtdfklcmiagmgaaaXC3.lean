/- Binary digits, comparisons: both. -/
import Derived.Test.YtdfklcmiagmgaaaXC2
namespace Go.Proofs.Ytdfklcmiagmgaaa
set_option linter.all false
open Go.RowKit Go.Shelf Go.WideNum
def bitB (neg : Bool) (s : ByteArray) : Int × Int := if validB neg s then ((bitsN (numB s) : Int), 0) else (0, 2)
theorem bitsN_wd (n R L : Nat) (hn : 0 < n) (hR : R = (wd n).length) (hL : L = Lib.bitLen (dig 4294967296 n (R - 1))) : 0 < R ∧ L ≤ 32 ∧ bitsN n + 32 = 32 * R + L := by
  have hR0 : 0 < R := by
    rw [hR]
    exact wd_pos (by omega)
  obtain ⟨m, rfl⟩ : ∃ m, R = m + 1 := ⟨R - 1, by omega⟩
  rw [Nat.add_sub_cancel] at hL
  have hlt := wd_vlt n
  rw [← hR] at hlt
  obtain ⟨b1, b2, b3⟩ := bitLen_spec _ (wd_dig n m)
  rw [← hL] at b1 b2 b3
  have hdiv : n / 4294967296 ^ m < 4294967296 := by
    refine Nat.div_lt_of_lt_mul ?_
    rw [Nat.pow_succ] at hlt; exact hlt
  have hdt : dig 4294967296 n m = n / 4294967296 ^ m := by unfold dig; rw [Nat.mod_eq_of_lt hdiv]
  have htrim : dig 4294967296 n m ≠ 0 := by
    have h1 := words_trimmed (B := 4294967296) (by omega) n n (Nat.le_refl _)
    have h2 : (wd n).getLast? = some (dig 4294967296 n m) := by
      rw [List.getLast?_eq_getElem?, ← hR, Nat.add_sub_cancel]
      exact wd_get n m (by omega)
    exact h1 _ h2
  have b2 := b2 htrim
  rw [hdt] at b1 b2 htrim
  have hL1 : 1 ≤ L := by
    rcases Nat.eq_zero_or_pos L with h | h
    · rw [h, Nat.pow_zero] at b1; omega
    · exact h
  have e0 : 4294967296 ^ m = 2 ^ (32 * m) := by rw [show (4294967296 : Nat) = 2 ^ 32 by rfl, ← Nat.pow_mul]
  have hp : 0 < 4294967296 ^ m := Nat.pow_pos (by omega)
  have u1 : n < 2 ^ (32 * m + L) := by
    rw [Nat.pow_add, ← e0, Nat.mul_comm]
    exact (Nat.div_lt_iff_lt_mul hp).1 b1
  have u2 : 2 ^ (32 * m + (L - 1)) ≤ n := by
    rw [Nat.pow_add, ← e0, Nat.mul_comm]
    refine (Nat.le_div_iff_mul_le hp).1 ?_
    have h3 : 2 ^ L = 2 * 2 ^ (L - 1) := by rw [← Nat.pow_succ']; congr 1; omega
    rw [h3] at b2
    generalize 2 ^ (L - 1) = P at *
    generalize n / 4294967296 ^ m = D at *
    clear u1 e0 hp hlt b1 h3
    omega
  have h1 := bitsN_le u1
  have h2 := bitsN_lt u2
  exact ⟨hR0, b3, by omega⟩
set_option maxRecDepth 100000 in
set_option maxHeartbeats 8000000 in
theorem Bits_any (neg : Bool) (s : ByteArray) (hs : s.size ≤ maxLen) (R E : Int) (h : bitB neg s = (R, E)) (w : World) :
    Calls Try.prog 40 #[.agg #[.bool neg, .string s]] w fun e w' => e = .returned (.tuple #[.int .i64 R, .int .i64 E]) ∧ Below w.heap.size w w' := by
  obtain ⟨HPOST, hpost⟩ : ∃ X : Ending → World → Prop, X = fun e w' => e = .returned (.tuple #[.int .i64 R, .int .i64 E]) ∧ Below w.heap.size w w' := ⟨_, rfl⟩
  rw [← hpost]
  have HP := Lib.hid hpost
  clear hpost
  have HV := Lib.hid (Valid_wide neg s hs)
  obtain ⟨ok, hok⟩ : ∃ ok, ok = validB neg s := ⟨_, rfl⟩
  unfold bitB at h
  rw [← hok] at h HV
  have HOK := Lib.hid hok
  clear hok
  have hb0 : Below w.heap.size w (w.alloc (.cells #[.bool neg, .string s] 23)) := (Below.refl _ w).alloc (Nat.le_refl _) _
  have hg0 : (w.alloc (.cells #[.bool neg, .string s] 23)).heap[w.heap.size]? = some (.cells #[.bool neg, .string s] 23) := heap_alloc_new w _
  have HB0 := Lib.hid hb0
  have HG0 := Lib.hid hg0
  clear hb0 hg0
  cases ok with
  | false =>
    obtain ⟨rfl, rfl⟩ : R = 0 ∧ E = 2 := by
      injection h with h1 h2
      exact ⟨h1.symm, h2.symm⟩
    clear h
    go_enter Try.func40, Try.ntmps40
    go_wp2_with fail
    (with_reducible refine (HV.out _).mono ?_)
    rintro e w1 ⟨rfl, hb1⟩
    have HB1 := Lib.hid (HB0.out.trans (hb1.mono HB0.out.size))
    clear hb1
    go_wp2
    rw [HP.out]
    exact ⟨rfl, HB1.out⟩
  | true =>
    obtain ⟨hlim, -, hnz, hs256⟩ := valid_spec neg s HOK.out.symm
    have hof := of_wide neg s (by omega)
    have hlen := wd_len65 hlim
    obtain ⟨n, en⟩ : ∃ n, n = numB s := ⟨_, rfl⟩
    rw [← en] at h hlim hnz hof hlen
    have HOF := Lib.hid hof
    obtain ⟨rfl, rfl⟩ : R = (bitsN n : Int) ∧ E = 0 := by
      rw [if_pos rfl] at h
      injection h with h1 h2
      exact ⟨h1.symm, h2.symm⟩
    obtain ⟨M, hM⟩ : ∃ M, M = bitsN n := ⟨_, rfl⟩
    rw [← hM] at HP
    have HM := Lib.hid hM
    have HLEN := Lib.hid hlen
    clear h hlim hnz hof en hM hlen
    go_enter Try.func40, Try.ntmps40
    go_wp2_with fail
    (with_reducible refine (HV.out _).mono ?_)
    rintro e w1 ⟨rfl, hb1⟩
    have hk1 := wide_hold (w := w) HG0.out hb1
    have HB1 := Lib.hid (HB0.out.trans (hb1.mono HB0.out.size))
    obtain ⟨c0, c1, f0⟩ := wide_cells hk1
    clear hb1 hk1
    go_wp2_with fail
    (with_reducible refine (HOF.out _).mono ?_)
    rintro e w2 ⟨v2, rfl, ho2, hb2⟩
    have hr := ho2.reads
    obtain ⟨a, c, rfl, hca, hcm, hsa⟩ := reads_u32 hr
    have HB2 := Lib.hid (HB1.out.trans (hb2.mono HB1.out.size))
    obtain ⟨R, hR⟩ : ∃ R, R = (wd n).length := ⟨_, rfl⟩
    have hR64 : R ≤ 64 := by rw [hR]; exact HLEN.out
    rw [← hR] at hca ⊢
    clear hb2 ho2 hr c0 c1 f0 hcm
    by_cases hn0 : n = 0
    · have hR0 : R = 0 := by rw [hR, hn0]; rfl
      have hM0 : M = 0 := by rw [HM.out, hn0]; rfl
      subst hR0 hM0
      clear hR hn0 hsa
      go_wp2
      rw [HP.out]
      exact ⟨rfl, HB2.out⟩
    · obtain ⟨L, hL⟩ : ∃ L, L = Lib.bitLen (dig 4294967296 n (R - 1)) := ⟨_, rfl⟩
      obtain ⟨r1, r2, r3⟩ := bitsN_wd n R L (by omega) hR hL
      rw [← HM.out] at r3
      obtain ⟨m, rfl⟩ : ∃ m, R = m + 1 := ⟨R - 1, by omega⟩
      rw [Nat.add_sub_cancel] at hL
      obtain ⟨b, off, rfl, hbl, hx⟩ := hsa m _ (wd_get n m (by omega))
      have hd := wd_dig n m
      obtain ⟨x, ex⟩ : ∃ x, x = dig 4294967296 n m := ⟨_, rfl⟩
      rw [← ex] at hx hL hd
      have hlz := fun W => lz_any x W hd
      rw [← hL] at hlz
      have HLZ := Lib.hid hlz
      have t1 : ((m + 1 : Nat) : Int) - 1 = (m : Int) := by omega
      have t2 : (((m + 1 : Nat) : Int) == 0) = false := by rw [beq_eq_false_iff_ne]; omega
      have HR3 : Hid (32 * (((m + 1 : Nat)) : Int) - ((32 - L : Nat) : Int) = (M : Int)) := by show _ = _; omega
      clear hR hL hn0 hsa ex hlz r3 hd
      go_wp2_with fail
      (with_reducible refine (HLZ.out _).mono ?_)
      rintro e w3 ⟨rfl, rfl⟩
      obtain ⟨l, el⟩ : ∃ l, l = 32 - L := ⟨_, rfl⟩
      rw [← el] at HR3 ⊢
      have hl32 : l ≤ 32 := by omega
      clear el
      go_wp2
      rw [HP.out]
      have h3 := HR3.out
      exact ⟨by first | (rw [h3]; done) | (congr 3; omega) | simp_all, HB2.out⟩
set_option maxRecDepth 100000 in
set_option maxHeartbeats 8000000 in
theorem refBits_any (neg : Bool) (s : ByteArray) (hs : s.size ≤ maxLen) (R E : Int) (h : bitB neg s = (R, E)) (w : World) :
    Calls Try.prog 41 #[.agg #[.bool neg, .string s]] w fun e w' => e = .returned (.tuple #[.int .i64 R, .int .i64 E]) ∧ Below w.heap.size w w' := by
  obtain ⟨HPOST, hpost⟩ : ∃ X : Ending → World → Prop, X = fun e w' => e = .returned (.tuple #[.int .i64 R, .int .i64 E]) ∧ Below w.heap.size w w' := ⟨_, rfl⟩
  rw [← hpost]
  have HP := Lib.hid hpost
  clear hpost
  obtain ⟨ok, hok⟩ : ∃ ok, ok = validB neg s := ⟨_, rfl⟩
  have HV := Lib.hid (refValid_wide neg s hs ok hok)
  unfold bitB at h
  rw [← hok] at h
  have HOK := Lib.hid hok
  clear hok
  have hb0 : Below w.heap.size w (w.alloc (.cells #[.bool neg, .string s] 23)) := (Below.refl _ w).alloc (Nat.le_refl _) _
  have hg0 : (w.alloc (.cells #[.bool neg, .string s] 23)).heap[w.heap.size]? = some (.cells #[.bool neg, .string s] 23) := heap_alloc_new w _
  have HB0 := Lib.hid hb0
  have HG0 := Lib.hid hg0
  clear hb0 hg0
  cases ok with
  | false =>
    obtain ⟨rfl, rfl⟩ : R = 0 ∧ E = 2 := by
      injection h with h1 h2
      exact ⟨h1.symm, h2.symm⟩
    clear h
    go_enter Try.func41, Try.ntmps41
    go_wp2_with fail
    (with_reducible refine (HV.out _).mono ?_)
    rintro e w1 ⟨rfl, hb1⟩
    have HB1 := Lib.hid (HB0.out.trans (hb1.mono HB0.out.size))
    clear hb1
    go_wp2
    rw [HP.out]
    exact ⟨rfl, HB1.out⟩
  | true =>
    obtain ⟨hlim, -, -, -⟩ := valid_spec neg s HOK.out.symm
    have hin := in_any neg s HOK.out.symm
    have hlen := hw_len129 hlim
    obtain ⟨n, en⟩ : ∃ n, n = numB s := ⟨_, rfl⟩
    rw [← en] at h hin hlen
    have HIN := Lib.hid hin
    obtain ⟨rfl, rfl⟩ : R = (bitsN n : Int) ∧ E = 0 := by
      rw [if_pos rfl] at h
      injection h with h1 h2
      exact ⟨h1.symm, h2.symm⟩
    have HBI : Hid (∀ v W, World.numH W v n → Calls Try.prog 75 #[v] W fun e w' => e = .returned (.int .i64 (bitsN n : Int)) ∧ W = w') := fun v W h => hbits_any n v W h (by omega)
    obtain ⟨M, hM⟩ : ∃ M, M = bitsN n := ⟨_, rfl⟩
    rw [← hM] at HP HBI
    clear h hlim en hM hlen hin
    go_enter Try.func41, Try.ntmps41
    go_wp2_with fail
    (with_reducible refine (HV.out _).mono ?_)
    rintro e w1 ⟨rfl, hb1⟩
    have hk1 := wide_hold (w := w) HG0.out hb1
    have HB1 := Lib.hid (HB0.out.trans (hb1.mono HB0.out.size))
    obtain ⟨c0, c1, f0⟩ := wide_cells hk1
    clear hb1 hk1
    go_wp2_with fail
    (with_reducible refine (HIN.out _).mono ?_)
    rintro e w2 ⟨v2, rfl, hn2, hb2⟩
    obtain ⟨a2, L2, c2, rfl⟩ : ∃ a L c, v2 = .slice a L c := by obtain ⟨x, y, h⟩ := reads_len hn2; exact ⟨x, _, y, h⟩
    have hfld := field1 neg a2 L2 c2
    have HB2 := Lib.hid (HB1.out.trans (hb2.mono HB1.out.size))
    have HN2 := Lib.hid hn2
    clear hb2 hn2 c0 c1 f0
    go_wp2_with fail
    (with_reducible refine (HBI.out _ _ HN2.out).mono ?_)
    rintro e w3 ⟨rfl, rfl⟩
    clear hfld
    go_wp2
    rw [HP.out]
    exact ⟨rfl, HB2.out⟩
end Go.Proofs.Ytdfklcmiagmgaaa
