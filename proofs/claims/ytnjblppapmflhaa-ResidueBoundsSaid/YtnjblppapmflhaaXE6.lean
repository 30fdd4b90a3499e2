/- The reference: the quotient to the nearest. -/
import Derived.Test.YtnjblppapmflhaaXE5
namespace Go.Proofs.Ytnjblppapmflhaa
set_option linter.all false
open Go.RowKit Go.Shelf Go.WideNum
theorem hw_len_add1 {A C k : Nat} (ha : (hw A).length ≤ k) (hc : (hw C).length ≤ k) : (hw (A + C)).length ≤ k + 1 := hw_len_le (by
  have h1 := Nat.lt_of_lt_of_le (hw_vlt A) (Nat.pow_le_pow_right (n := 65536) (by omega) ha)
  have h2 := Nat.lt_of_lt_of_le (hw_vlt C) (Nat.pow_le_pow_right (n := 65536) (by omega) hc)
  rw [Nat.pow_succ]
  omega)
/-- The quotient to the nearest, a half going up. -/
def roundZ (a m : Int) : Int := (2 * a + m) / (2 * m)
def roundF (na : Bool) (sa : ByteArray) (nb : Bool) (sb : ByteArray) : Value × Int :=
  if validB na sa && posB nb sb then (outZ (roundZ (zV na sa) (zV nb sb)), errZ (roundZ (zV na sa) (zV nb sb))) else (emptyW, 2)
theorem keepWN {W : World} {p q : Nat} {b c : Bool} {s : ByteArray} {v : Value} {T : TypeId} (h2 : W.heap[p]? = some (.cells #[.bool b, .string s] 38)) (h3 : W.heap[q]? = some (.cells #[.bool c, v] T)) :
    W.cell? ⟨p, 0, none⟩ = some (.bool b) ∧ W.cell? ⟨p, 1, none⟩ = some (.string s) ∧ W.cell? ⟨q, 0, none⟩ = some (.bool c) ∧ W.cell? ⟨q, 1, none⟩ = some v :=
  ⟨(wide_cells h2).1, (wide_cells h2).2.1, (num_cells h3).1, (num_cells h3).2.1⟩
theorem round_z (A : Nat) (na : Bool) (C : Nat) (hC : C ≠ 0) (s : Bool) (hs : zOf s (2 * A) = 2 * zOf na A) :
    zOf (((sumS (2 * A) s C false && decide (sumN (2 * A) s C false ≠ 0)) != false) && decide (floorN (sumN (2 * A) s C false) (sumS (2 * A) s C false && decide (sumN (2 * A) s C false ≠ 0)) (2 * C) ≠ 0)) (floorN (sumN (2 * A) s C false) (sumS (2 * A) s C false && decide (sumN (2 * A) s C false ≠ 0)) (2 * C)) = roundZ (zOf na A) (zOf false C) := by
  rw [zOf_and, (floor_z _ _ _ _ (by omega)).1, zOf_and, sum_z, hs, zOf_false, zOf_false]
  unfold roundZ
  rw [show ((2 * C : Nat) : Int) = 2 * (C : Int) by omega]
theorem mul2_z (A : Nat) (na : Bool) : zOf ((false != na) && decide (2 * A ≠ 0)) (2 * A) = 2 * zOf na A := by
  rw [zOf_and]; unfold zOf; cases na <;> simp <;> omega
end Go.Proofs.Ytnjblppapmflhaa
