/- Words of 64 bits as BitVec: what the operations of the model do on them. -/
import Derived.WalkKit
namespace Go
/-- A word's number. -/
def wv (x : BitVec 64) : Int := (x.toNat : Int)

/-- The operations on words, under names that no simplifier looks into. -/
def wxor (x y : BitVec 64) : BitVec 64 := x ^^^ y
def wand (x y : BitVec 64) : BitVec 64 := x &&& y
def wor (x y : BitVec 64) : BitVec 64 := x ||| y
def wnot (x : BitVec 64) : BitVec 64 := ~~~x
def wshl (x : BitVec 64) (n : Nat) : BitVec 64 := x <<< n
def wshr (x : BitVec 64) (n : Nat) : BitVec 64 := x >>> n
def wof (n : Int) : BitVec 64 := BitVec.ofInt 64 n
theorem u64_wrap_of_lt (n : Nat) : IntKind.u64.wrap (n : Int) = ((n % 2 ^ 64 : Nat) : Int) := by
  rw [IntKind.wrap_u64]; omega
theorem u64_wrap_wv (x : BitVec 64) : IntKind.u64.wrap (wv x) = wv x := by
  unfold wv; rw [u64_wrap_of_lt, Nat.mod_eq_of_lt x.isLt]
theorem ofInt_wv (x : BitVec 64) : BitVec.ofInt 64 (wv x) = x := by
  unfold wv; rw [BitVec.ofInt_natCast, BitVec.ofNat_toNat, BitVec.setWidth_eq]
theorem wv_lit (n : Int) (h : 0 ≤ n ∧ n < 18446744073709551616) : n = wv (wof n) := by
  unfold wv wof
  obtain ⟨m, rfl⟩ := Int.eq_ofNat_of_zero_le h.1
  rw [BitVec.ofInt_natCast, BitVec.toNat_ofNat, Nat.mod_eq_of_lt (by omega)]
theorem wv_range (x : BitVec 64) : 0 ≤ wv x ∧ wv x < 18446744073709551616 := by
  have := x.isLt; unfold wv; omega
theorem wv_inj {x y : BitVec 64} (h : wv x = wv y) : x = y := by
  unfold wv at h; exact BitVec.eq_of_toNat_eq (by omega)
theorem wv_beq (x y : BitVec 64) : (wv x == wv y) = (x == y) := by
  rw [Bool.eq_iff_iff, beq_iff_eq, beq_iff_eq]; exact ⟨wv_inj, fun h => by rw [h]⟩

section
variable (x y : BitVec 64)
theorem wor_comm : wor x y = wor y x := BitVec.or_comm x y
theorem xor_wv : bits .xor .u64 (wv x) (wv y) = wv (wxor x y) := by
  show IntKind.u64.wrap ((BitVec.ofInt 64 (wv x) ^^^ BitVec.ofInt 64 (wv y)).toNat : Int) = _
  rw [ofInt_wv, ofInt_wv]; exact u64_wrap_wv _
theorem and_wv : bits .and .u64 (wv x) (wv y) = wv (wand x y) := by
  show IntKind.u64.wrap ((BitVec.ofInt 64 (wv x) &&& BitVec.ofInt 64 (wv y)).toNat : Int) = _
  rw [ofInt_wv, ofInt_wv]; exact u64_wrap_wv _
theorem or_wv : bits .or .u64 (wv x) (wv y) = wv (wor x y) := by
  show IntKind.u64.wrap ((BitVec.ofInt 64 (wv x) ||| BitVec.ofInt 64 (wv y)).toNat : Int) = _
  rw [ofInt_wv, ofInt_wv]; exact u64_wrap_wv _
theorem not_wv : bits .xor .u64 IntKind.u64.max (wv x) = wv (wnot x) := by
  show IntKind.u64.wrap ((BitVec.ofInt 64 IntKind.u64.max ^^^ BitVec.ofInt 64 (wv x)).toNat : Int) = _
  have : BitVec.ofInt 64 IntKind.u64.max = BitVec.allOnes 64 := by decide
  rw [ofInt_wv, this, BitVec.allOnes_xor]; exact u64_wrap_wv _
end
end Go
namespace Go
/-- The bits of a word, moved to the right by k, and round. -/
def rotr (x : BitVec 64) (k : Nat) : BitVec 64 := wor (wshr x k) (wshl x (64 - k))
theorem shl_nf (x : BitVec 64) (n : Nat) : IntKind.u64.wrap (wv x * 2 ^ n) = wv (wshl x n) := by
  unfold wv wshl
  rw [BitVec.toNat_shiftLeft, Nat.shiftLeft_eq, ← u64_wrap_of_lt]
  congr 1
theorem shr_nf (x : BitVec 64) (n : Nat) : wv x / 2 ^ n = wv (wshr x n) := by
  unfold wv wshr
  rw [BitVec.toNat_ushiftRight, Nat.shiftRight_eq_div_pow]
  simp
theorem and63 (a : Int) (h : 0 < a ∧ a < 64) : bits .and .u64 (IntKind.u64.wrap (-a)) 63 = 64 - a := by
  have H : ∀ n : Fin 64, 0 < n.val → bits .and .u64 (IntKind.u64.wrap (-(n.val : Int))) 63 = 64 - (n.val : Int) := by decide +kernel
  obtain ⟨m, rfl⟩ := Int.eq_ofNat_of_zero_le (Int.le_of_lt h.1)
  exact H ⟨m, by omega⟩ (by simp; omega)
end Go
