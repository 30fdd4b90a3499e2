/- The reference: helpers of its exported functions. -/
import Derived.Test.YtdfklcmiagmgaaaXR8
import Derived.Test.YtdfklcmiagmgaaaWE1
namespace Go
section
variable {P : Program} {ops : Array Oper} {Q : Exit → Act → World → Prop} {S : World → Prop} {late : Nat → Bool}
/-- The one operation that may come up; S is shown again behind it. -/
theorem wpAnyD_keep (i : Nat) {o : Oper} {fuel : Nat} {listed : Array Bool} {a : Act} {w : World} (hr : Region.ready .any ops listed = [i]) (ho : ops.toList[i]? = some o)
    (h : ∀ K' : Act → World → Prop, Shut (∀ a w, S w → (S w → wpAnyD P ops Q S late fuel (listed.setIfInBounds i true) a w) → K' a w) → if Region.wanted o (yielded ops a.tmps) = true then Oper.wp P o a w K' Q else K' (a.put o.dst undef) w) :
    wpAnyD P ops Q S late (fuel + 1) listed a w := by
  refine ⟨fun h0 => (by rw [hr] at h0; cases h0), fun j hj => ?_⟩
  rw [hr] at hj
  obtain rfl : j = i := by simpa using hj
  exact wpOp_step (by simpa using ho) (fun K' hK => h K' (fun a w hS hW => hK a w ⟨fun _ _ => hS, hW hS⟩))
end
end Go
namespace Go.Proofs.Ytdfklcmiagmgaaa
set_option linter.all false
open Go.RowKit Go.Shelf Go.WideNum
theorem zOf_and (s : Bool) (n : Nat) : zOf (s && decide (n ≠ 0)) n = zOf s n := by
  by_cases h : n = 0
  · subst h; cases s <;> simp [zOf]
  · simp [h]
theorem outZ_agg (z : Int) : ∃ fb ft, outZ z = .agg #[.bool fb, .string ft] := by
  unfold outZ outB emptyW wideV
  split <;> exact ⟨_, _, rfl⟩
theorem hout_num (s : Bool) (n : Nat) (hl : (hw n).length ≤ 10000) (fb : Bool) (ft : ByteArray) (E : Int) (h1 : outZ (zOf s n) = .agg #[.bool fb, .string ft]) (h2 : errZ (zOf s n) = E) (v : Value) (w : World) (h : World.numH w v n) :
    Calls Try.prog 57 #[.agg #[.bool s, v]] w fun e w' => e = .returned (.tuple #[.agg #[.bool fb, .string ft], .int .i64 E]) ∧ Below w.heap.size w w' := by
  have := hout_any s n _ (hw_vlt n) hl v w (numH_raw h)
  unfold FormRet at this
  rw [outB_z, outE_z s, h1, h2] at this
  exact this
theorem refValid_wide (neg : Bool) (s : ByteArray) (hs : s.size ≤ maxLen) (ok : Bool) (hok : ok = validB neg s) (w : World) :
    Calls Try.prog 21 #[.agg #[.bool neg, .string s]] w fun e w' => e = .returned (.bool ok) ∧ Below w.heap.size w w' := by subst hok; exact refValid_any neg s hs w
theorem hw_len129 {n : Nat} (h : n < lim) : (hw n).length ≤ 129 := by
  have h1 := hw_halves n
  have h2 := (lim_iff n _ rfl).1 h
  omega
theorem hw_len_mul {A C : Nat} {a c : Nat} (ha : (hw A).length ≤ a) (hc : (hw C).length ≤ c) : (hw (A * C)).length ≤ a + c := hw_len_le (by
  rw [Nat.pow_add]
  exact Nat.mul_lt_mul'' (Nat.lt_of_lt_of_le (hw_vlt A) (Nat.pow_le_pow_right (by omega) ha)) (Nat.lt_of_lt_of_le (hw_vlt C) (Nat.pow_le_pow_right (by omega) hc)))
theorem hw_len_mono {A C k : Nat} (h : A ≤ C) (hc : (hw C).length ≤ k) : (hw A).length ≤ k := hw_len_le (Nat.lt_of_le_of_lt h (Nat.lt_of_lt_of_le (hw_vlt C) (Nat.pow_le_pow_right (by omega) hc)))
theorem hw_len_sum {A C n : Nat} (ha : (hw A).length ≤ 2000) (hc : (hw C).length ≤ 2000) (h : n ≤ A + C) : (hw n).length ≤ 4001 :=
  hw_len_mono h (hw_len_add (Nat.le_trans ha (by omega)) (Nat.le_trans hc (by omega)))
theorem wide_hold {w w' W : World} {g : Nat} {b : Bool} {s : ByteArray} (h : W.heap[g]? = some (.cells #[.bool b, .string s] 23)) (hb : Below W.heap.size W w') : w'.heap[g]? = some (.cells #[.bool b, .string s] 23) := (hb.block _ (lt_of_heap h)).trans h
end Go.Proofs.Ytdfklcmiagmgaaa
