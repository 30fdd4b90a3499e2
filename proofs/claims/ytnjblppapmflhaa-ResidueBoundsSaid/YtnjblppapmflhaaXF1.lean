/- Walks: the integer of 64 bits of a form: the program's. -/
import Derived.Test.YtnjblppapmflhaaXRb
namespace Go.Proofs.Ytnjblppapmflhaa
set_option linter.all false
open Go.RowKit Go.Shelf Go.WideNum
/-- The integer of 64 bits, or ErrRange. -/
def intN (neg : Bool) (n : Nat) : Int × Int := if neg then (if n ≤ 9223372036854775808 then (-(n : Int), 0) else (0, 7)) else if n < 9223372036854775808 then ((n : Int), 0) else (0, 7)
def intB (neg : Bool) (s : ByteArray) : Int × Int := if validB neg s then intN neg (numB s) else (0, 2)
theorem zeros_app (n : Nat) : (wd n).map u32V ++ [.int .u32 0, .int .u32 0] = ((List.range ((wd n).length + 2)).map (dig 4294967296 n)).map u32V := by
  rw [show (wd n).length + 2 = (wd n).length + 1 + 1 by omega, List.range_succ, List.range_succ]
  simp only [List.map_append, List.map_cons, List.map_nil]
  rw [wd_high n _ (Nat.le_refl _), wd_high n _ (Nat.le_succ _)]
  have h : (List.range (wd n).length).map (dig 4294967296 n) = wd n := by
    apply List.ext_getElem?
    intro i
    rcases Nat.lt_or_ge i (wd n).length with h | h
    · rw [wd_get n i h]; simp [h]
    · rw [List.getElem?_eq_none (by simpa using h), List.getElem?_eq_none h]
  rw [h]
  simp [u32V]
theorem wd_len2 (n : Nat) : (wd n).length ≤ 2 ↔ n < 18446744073709551616 := by
  constructor
  · intro h
    have := Nat.lt_of_lt_of_le (wd_vlt n) (Nat.pow_le_pow_right (show 0 < 4294967296 by omega) h)
    omega
  · intro h
    exact words_length (by omega) n 2 (by omega)
end Go.Proofs.Ytnjblppapmflhaa
