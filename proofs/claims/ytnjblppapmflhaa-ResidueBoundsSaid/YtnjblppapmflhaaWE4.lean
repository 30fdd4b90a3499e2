/- Walks: the quotient to the nearest. -/
import Derived.Test.YtnjblppapmflhaaXE6
namespace Go.Proofs.Ytnjblppapmflhaa
set_option linter.all false
open Go.RowKit Go.Shelf Go.WideNum
/-- What the general division does, for all numbers. -/
def DivAll : Prop := ∀ A C : Nat, C ≠ 0 → (wd A).length ≤ 200 → (wd C).length ≤ 200 → DivOK A C
theorem wd_len_add1 {A C k : Nat} (ha : (wd A).length ≤ k) (hc : (wd C).length ≤ k) : (wd (A + C)).length ≤ k + 1 := by
  have h1 := Nat.lt_of_lt_of_le (wd_vlt A) (Nat.pow_le_pow_right (n := 4294967296) (by omega) ha)
  have h2 := Nat.lt_of_lt_of_le (wd_vlt C) (Nat.pow_le_pow_right (n := 4294967296) (by omega) hc)
  have := words_length (B := 4294967296) (by omega) (A + C) (k + 1) (by rw [Nat.pow_succ]; omega)
  unfold wd at *; omega
theorem rnd_z (A : Nat) (na : Bool) (C : Nat) (hC : C ≠ 0) (SB : Bool) (N : Nat) (h : zOf SB N = zOf na (A * 2 ^ 1) + zOf false C) : zOf (SB != false) (floorN N SB (C * 2 ^ 1)) = roundZ (zOf na A) (zOf false C) := by
  rw [(floor_z _ _ _ _ (by omega)).1, h]
  unfold roundZ
  rw [zOf_false, zOf_false, show ((C * 2 ^ 1 : Nat) : Int) = 2 * (C : Int) by omega]
  congr 1
  unfold zOf
  split <;> omega
theorem floorN_le2 (A : Nat) (an : Bool) (C : Nat) (hC : C ≠ 0) : floorN A an C ≤ A := floorN_le A an C hC
end Go.Proofs.Ytnjblppapmflhaa
