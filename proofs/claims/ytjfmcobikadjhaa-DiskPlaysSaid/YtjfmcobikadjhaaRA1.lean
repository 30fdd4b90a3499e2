/- Walks: the reference's disk: numbers. -/
import Derived.Test.YtjfmcobikadjhaaDL1
import Derived.Test.YtjfmcobikadjhaaSWf
namespace Go.Proofs.Ytjfmcobikadjhaa
set_option linter.all false
open Go.RowKit Go.Shelf
def sgn (n : Nat) : Int := wrap64 (n : Int)
theorem sgn_small (n : Nat) (h : n < 9223372036854775808) : sgn n = (n : Int) := IntWalk.wrap64_in _ ⟨by omega, by omega⟩
theorem sgn_big (n : Nat) (h : 9223372036854775808 ≤ n) (h2 : n < 18446744073709551616) : sgn n < 0 := by unfold sgn wrap64; omega
theorem sgn_mul (n : Nat) : wrap64 (sgn n * 256) = sgn (n * 256) := by unfold sgn wrap64; omega
theorem wrap_byte (c : UInt8) : wrap64 (c.toNat : Int) = (c.toNat : Int) := IntWalk.wrap64_in _ (by have := c.toNat_lt; omega)
/-- The reference's disk. -/
structure RDiskAt (w : World) (p b : Nat) (d : Dk) : Prop where
  at_ : w.heap[p]? = some (.cells #[.int .i64 (d.size : Int), .slice (some ⟨b, 0, none⟩) (2 * d.size) (2 * d.size), .int .i64 d.fuse, .bool d.failed] 69)
  half : HalfAt w b (d.h0 ++ d.h1)
  ne : ¬ b = p
theorem RDiskAt.below {w w' : World} {p b B : Nat} {d : Dk} (h : RDiskAt w p b d) (hb : Below B w w') (hp : p < B) (h0 : b < B) : RDiskAt w' p b d :=
  ⟨(hb.block _ hp).trans h.at_, h.half.below hb h0, h.ne⟩
theorem RDiskAt.kept {w w' : World} {p b : Nat} {d : Dk} (h : RDiskAt w p b d) (hb : Below w.heap.size w w') : RDiskAt w' p b d :=
  h.below hb (lt_of_heap h.at_) h.half.lt
theorem RDiskAt.drew {w : World} {p b : Nat} {d : Dk} (h : RDiskAt w p b d) : RDiskAt w.drew p b d := ⟨h.at_, h.half, h.ne⟩
theorem both_length {d : Dk} (ho : d.ok) : (d.h0 ++ d.h1).length = 2 * d.size := by rw [List.length_append, ho.l0, ho.l1]; omega
theorem or_sgn (n : Nat) (c : UInt8) (h : n < 72057594037927936) : bits .or .i64 (sgn (n * 256)) ((c.toNat : Nat) : Int) = sgn (n * 256 + c.toNat) := by
  have hc := c.toNat_lt
  obtain ⟨m, hm⟩ : ∃ m, m = n * 256 := ⟨_, rfl⟩
  obtain ⟨k, hk⟩ : ∃ k, k = c.toNat := ⟨_, rfl⟩
  have e2 : m ||| k = m + k := by
    have := Nat.two_pow_add_eq_or_of_lt (i := 8) (b := k) (by omega) n
    rw [hm, Nat.mul_comm n 256]; exact this.symm
  rw [← hk, ← hm]
  have hm2 : m < 18446744073709551616 := by omega
  have e3 : BitVec.ofInt 64 (sgn m) = BitVec.ofNat 64 m := by
    apply BitVec.eq_of_toNat_eq
    rw [BitVec.toNat_ofInt, BitVec.toNat_ofNat]
    unfold sgn wrap64
    omega
  show IntKind.i64.wrap ((BitVec.ofInt 64 (sgn m) ||| BitVec.ofInt 64 (k : Int)).toNat : Int) = _
  rw [e3, BitVec.ofInt_natCast, BitVec.toNat_or, BitVec.toNat_ofNat, BitVec.toNat_ofNat, mod64 m hm2, mod64 k (by omega), e2]
  exact IntWalk.i64_left _
set_option maxRecDepth 100000 in
set_option maxHeartbeats 4000000 in
theorem rnumber_any (p b at_ many : Nat) (d : Dk) (w : World) (hd : RDiskAt w p b d) (ho : d.ok) (hk : at_ + many ≤ 2 * d.size) (h8 : many ≤ 8) :
    Calls Try.prog 58 #[.pointer (some ⟨p, 0, none⟩), .int .i64 (at_ : Int), .int .i64 (many : Int)] w fun e w' => e = .returned (.int .i64 (sgn (numL (((d.h0 ++ d.h1).drop at_).take many)))) ∧ w = w' := by
  obtain ⟨L, hL⟩ : ∃ L, L = ((d.h0 ++ d.h1).drop at_).take many := ⟨_, rfl⟩
  have hbl := both_length ho
  have hLl : L.length = many := by rw [hL, List.length_take, List.length_drop, hbl]; omega
  have HC : Hid (∀ (k : Nat) (x : UInt8), L[k]? = some x → w.cell? ⟨b, at_ + k, none⟩ = some (.int .u8 (x.toNat : Int))) := by
    intro k x hk
    refine hd.half.cell _ _ ?_
    rw [hL, List.getElem?_take] at hk
    split at hk
    · rw [List.getElem?_drop] at hk; exact hk
    · cases hk
  obtain ⟨-, k1, -, -, -, -⟩ := four_cells hd.at_
  obtain ⟨S, hS⟩ : ∃ S, S = 2 * d.size := ⟨_, rfl⟩
  have hmx : S ≤ 600000 := by have := ho.hi; omega
  rw [← hS] at k1 hk
  rw [← hL]
  have HLl := Lib.hid hLl
  clear hL hbl hd ho hS hLl
  go_enter Try.func58, Try.ntmps58
  go_wp2_with fail
  go_loop [7, 8] (fun v i => ∃ k : Nat, k ≤ many ∧ i = .int .i64 ((at_ + k : Nat) : Int) ∧ v = .int .i64 (sgn (numL (L.take k)))) (fun _ i => at_ + many - (intOf i).toNat)
  case atStart => exact ⟨0, Nat.zero_le _, rfl, by rw [show L.take 0 = [] from rfl]; exact congrArg _ (sgn_small 0 (by omega)).symm⟩
  case round =>
    obtain ⟨k, hkm, rfl, rfl⟩ := hrel
    by_cases hlt : k < many
    · obtain ⟨x, hx⟩ : ∃ x, L[k]? = some x := ⟨L[k]'(by rw [HLl.out]; exact hlt), List.getElem?_eq_getElem _⟩
      have hc := HC.out k x hx
      have HX : Hid (L.take (k + 1) = L.take k ++ [x]) := by show _ = _; rw [List.take_add_one, hx]; rfl
      have hb1 : numL (L.take k) < 256 ^ 7 := by
        have h1 := numL_lt (L.take k)
        have h2 : (256 : Nat) ^ (L.take k).length ≤ 256 ^ 7 := Nat.pow_le_pow_right (by decide) (by rw [List.length_take, HLl.out]; omega)
        omega
      obtain ⟨N, hN⟩ : ∃ N, N = numL (L.take k) := ⟨_, rfl⟩
      rw [← hN] at hb1 ⊢
      have HN := Lib.hid hN
      have h256 : (256 : Nat) ^ 7 = 72057594037927936 := by decide
      rw [h256] at hb1
      have hor := or_sgn N x hb1
      obtain ⟨j, hj⟩ : ∃ j, j = at_ + k := ⟨_, rfl⟩
      rw [← hj] at hc ⊢
      have hj1 : (j : Int) < (at_ : Int) + (many : Int) := by omega
      have hj2 : j < S := by omega
      have HJ := Lib.hid hj
      clear hx hN h256 hj
      go_wp2
      go_round
      case rel =>
        refine ⟨k + 1, by omega, by rw [HJ.out]; go_num, ?_⟩
        rw [sgn_mul, wrap_byte, hor, HX.out, numL_snoc, ← HN.out]
      case measure => simp [intOf]; omega
    · obtain rfl : k = many := by omega
      have hT : L.take k = L := by rw [List.take_of_length_le (by rw [HLl.out]; exact Nat.le_refl _)]
      rw [hT]
      clear hT
      go_wp2
      go_ret
      exact ⟨rfl, rfl⟩
end Go.Proofs.Ytjfmcobikadjhaa
