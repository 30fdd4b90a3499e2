/- Walks: the reference: whether a form is valid. -/
import Derived.Test.YtdfklcmiagmgaaaWA1
namespace Go.Proofs.Ytdfklcmiagmgaaa
set_option linter.all false
open Go.RowKit Go.Shelf
set_option maxRecDepth 100000 in
set_option maxHeartbeats 4000000 in
theorem refValid_any (neg : Bool) (s : ByteArray) (hs : s.size ≤ maxLen) (w : World) :
    Calls Try.prog 21 #[wideV neg s] w fun e w' => e = .returned (.bool (validB neg s)) ∧ Below w.heap.size w w' := by
  have hb : Below w.heap.size w (w.alloc (.cells #[.bool neg, .string s] 23)) := (Below.refl _ w).alloc (Nat.le_refl _) _
  obtain ⟨R, hR⟩ : ∃ R, R = validB neg s := ⟨_, rfl⟩
  rw [← hR]
  unfold validB at hR
  have HB := Lib.hid hb
  unfold wideV
  have hs63 : s.size ≤ 9223372036854775807 := hs
  by_cases h0 : s.size = 0
  · have hse : s = ⟨#[]⟩ := by
      apply ByteArray.ext
      exact Array.eq_empty_of_size_eq_zero h0
    rw [dif_pos h0] at hR
    subst hR
    subst hse
    clear hb
    go_enter Try.func21, Try.ntmps21
    go_wp2
    go_ret
    exact ⟨rfl, HB.out⟩
  · rw [dif_neg h0] at hR
    have hns : ¬ s = (⟨#[]⟩ : ByteArray) := fun h => h0 (by rw [h]; rfl)
    have h0' : 0 < s.size := by omega
    have hemp : s.toList.isEmpty = false := by
      rw [ByteArray.toList_eq]
      cases hl : s.data.toList with
      | nil =>
        exfalso
        apply h0
        show s.data.size = 0
        rw [← Array.length_toList, hl]; rfl
      | cons a l => rfl
    by_cases hz : s[0] = 0
    · have hR2 : R = false := by rw [hR, hz]; rfl
      have HR := Lib.hid hR2
      have hz1 : (s[0].toNat : Int) = 0 := by rw [hz]; rfl
      clear hR hb hR2 hz
      by_cases h256 : s.size ≤ 256
      · have h256' : (s.size : Int) ≤ 256 := by omega
        go_enter Try.func21, Try.ntmps21
        go_wp2
        go_ret
        rw [HR.out]
        exact ⟨rfl, HB.out⟩
      · have h256' : ¬ (s.size : Int) ≤ 256 := by omega
        go_enter Try.func21, Try.ntmps21
        go_wp2
        go_ret
        rw [HR.out]
        exact ⟨rfl, HB.out⟩
    · have hR2 : R = decide (s.size ≤ 256) := by rw [hR, decide_eq_true (show s[0] ≠ 0 from hz), Bool.true_and]
      have HR := Lib.hid hR2
      have hz1 : ((s[0].toNat : Int) != 0) = true := by
        rw [bne_iff_ne]
        intro h
        exact hz (UInt8.toNat_inj.1 (by show s[0].toNat = 0; omega))
      have hz2 : ¬ (s[0].toNat : Int) = 0 := by
        intro h
        exact hz (UInt8.toNat_inj.1 (by show s[0].toNat = 0; omega))
      clear hR hb hR2 hz
      by_cases h256 : s.size ≤ 256
      · have h256' : (s.size : Int) ≤ 256 := by omega
        go_enter Try.func21, Try.ntmps21
        go_wp2
        go_ret
        rw [HR.out, decide_eq_true h256]
        exact ⟨rfl, HB.out⟩
      · have h256' : ¬ (s.size : Int) ≤ 256 := by omega
        go_enter Try.func21, Try.ntmps21
        go_wp2
        go_ret
        rw [HR.out, decide_eq_false h256]
        exact ⟨rfl, HB.out⟩
end Go.Proofs.Ytdfklcmiagmgaaa
