/- Plain: integers out of signs and absolute values. -/
import Derived.Test.YtdfklcmiagmgaaaWC3
namespace Go.Proofs.Ytdfklcmiagmgaaa
set_option linter.all false
open Go.WideNum
def zOf (neg : Bool) (n : Nat) : Int := if neg then -(n : Int) else (n : Int)
theorem zOf_natAbs (neg : Bool) (n : Nat) : (zOf neg n).natAbs = n := by unfold zOf; split <;> omega
theorem zOf_neg (neg : Bool) (n : Nat) : decide (zOf neg n < 0) = (neg && decide (n ≠ 0)) := by
  unfold zOf
  cases neg with
  | false => simp
  | true =>
    rw [if_pos rfl, Bool.true_and]
    by_cases h : n = 0
    · subst h; rfl
    · rw [decide_eq_true (by omega), decide_eq_true h]
theorem zOf_false (n : Nat) : zOf false n = (n : Int) := rfl
def outZ (z : Int) : Value := outB (decide (z < 0)) z.natAbs
def errZ (z : Int) : Int := outE z.natAbs
theorem outB_z (neg : Bool) (n : Nat) : outB neg n = outZ (zOf neg n) := by
  unfold outZ
  rw [zOf_natAbs, zOf_neg]
  unfold outB
  split
  · congr 1
    cases neg <;> simp
  · rfl
theorem outE_z (neg : Bool) (n : Nat) : outE n = errZ (zOf neg n) := by unfold errZ; rw [zOf_natAbs]
theorem outZ_in (z : Int) (h : z.natAbs < lim) : outZ z = wideV (decide (z < 0)) (magB z.natAbs) ∧ errZ z = 0 := by
  unfold outZ errZ outB outE
  rw [if_pos h, if_pos h]
  refine ⟨?_, rfl⟩
  congr 1
  by_cases hz : z < 0
  · rw [decide_eq_true hz, decide_eq_true (by omega)]; rfl
  · rw [decide_eq_false hz]; rfl
theorem outZ_out (z : Int) (h : ¬ z.natAbs < lim) : outZ z = emptyW ∧ errZ z = 7 := by
  unfold outZ errZ outB outE
  rw [if_neg h, if_neg h]
  exact ⟨rfl, rfl⟩
theorem sum_z (A : Nat) (an : Bool) (C : Nat) (bn : Bool) : zOf (sumS A an C bn) (sumN A an C bn) = zOf an A + zOf bn C := by
  unfold sumS sumN zOf
  cases an <;> cases bn <;> by_cases h : A < C <;> simp [h] <;> omega
theorem floor_z (A : Nat) (an : Bool) (C : Nat) (bn : Bool) (hC : C ≠ 0) : zOf (an != bn) (floorN A an C) = zOf an A / zOf bn C ∧ (floorR A an C : Int) = zOf an A % zOf bn C := by
  have key : zOf an A = zOf bn C * zOf (an != bn) (floorN A an C) + (floorR A an C : Int) ∧ floorR A an C < C := by
    have h1 := Nat.div_add_mod A C
    have h2 := Nat.mod_lt A (show 0 < C by omega)
    unfold floorN floorR
    by_cases hc : an = true ∧ A % C ≠ 0
    · rw [if_pos hc, if_pos hc]
      obtain ⟨rfl, h0⟩ := hc
      refine ⟨?_, by omega⟩
      have h3 : C * (A / C + 1) = C * (A / C) + C := by rw [Nat.mul_add, Nat.mul_one]
      have h4 : (C : Int) * ((A / C + 1 : Nat) : Int) = ((C * (A / C) + C : Nat) : Int) := by rw [← h3, Int.natCast_mul]
      unfold zOf
      cases bn
      · simp only [if_true, Bool.true_bne, Bool.not_false, Bool.false_eq_true, if_false]
        rw [Int.mul_neg, h4]; omega
      · simp only [if_true, Bool.true_bne, Bool.not_true, Bool.false_eq_true, if_false]
        rw [Int.neg_mul, h4]; omega
    · rw [if_neg hc, if_neg hc]
      refine ⟨?_, h2⟩
      have h4 : (C : Int) * ((A / C : Nat) : Int) = ((C * (A / C) : Nat) : Int) := by rw [Int.natCast_mul]
      unfold zOf
      cases an
      · cases bn
        · simp only [bne_self_eq_false, Bool.false_eq_true, if_false]; rw [h4]; omega
        · simp only [Bool.false_bne, if_true, Bool.false_eq_true, if_false]; rw [Int.neg_mul_neg, h4]; omega
      · have h0 : A % C = 0 := by
          rcases Nat.eq_zero_or_pos (A % C) with h | h
          · exact h
          · exact absurd ⟨rfl, by omega⟩ hc
        cases bn
        · simp only [Bool.true_bne, Bool.not_false, if_true, Bool.false_eq_true, if_false]; rw [Int.mul_neg, h4]; omega
        · simp only [bne_self_eq_false, Bool.false_eq_true, if_true, if_false]; rw [Int.neg_mul, h4]; omega
  obtain ⟨k1, k2⟩ := key
  cases bn with
  | false =>
    have := (Int.ediv_emod_unique (a := zOf an A) (b := zOf false C) (r := (floorR A an C : Int)) (q := zOf (an != false) (floorN A an C)) (by rw [zOf_false]; omega)).2 ⟨by omega, by omega, by rw [zOf_false]; omega⟩
    exact ⟨this.1.symm, this.2.symm⟩
  | true =>
    have hz : zOf true C = -(C : Int) := rfl
    have := (Int.ediv_emod_unique' (a := zOf an A) (b := zOf true C) (r := (floorR A an C : Int)) (q := zOf (an != true) (floorN A an C)) (by rw [hz]; omega)).2 ⟨by omega, by omega, by rw [hz]; omega⟩
    exact ⟨this.1.symm, this.2.symm⟩
/-- The integer of a form. -/
def zV (neg : Bool) (s : ByteArray) : Int := zOf neg (numB s)
theorem valid_spec (neg : Bool) (s : ByteArray) (h : validB neg s = true) : numB s < lim ∧ magB (numB s) = s ∧ (neg = true → numB s ≠ 0) ∧ s.size ≤ 256 := by
  unfold validB at h
  by_cases h0 : s.size = 0
  · rw [dif_pos h0] at h
    have hse : s = ⟨#[]⟩ := by
      apply ByteArray.ext
      exact Array.eq_empty_of_size_eq_zero h0
    subst hse
    refine ⟨lim_pos, rfl, fun hn => ?_, by decide⟩
    rw [hn] at h; cases h
  · rw [dif_neg h0] at h
    simp only [Bool.and_eq_true, decide_eq_true_eq] at h
    obtain ⟨h1, h2⟩ := h
    have hl : 0 < s.data.toList.length := by show 0 < s.data.size; exact Nat.pos_of_ne_zero h0
    have hhead : s.data.toList.head? ≠ some 0 := by
      intro hh
      rw [List.head?_eq_getElem?, List.getElem?_eq_getElem hl] at hh
      injection hh with hh
      exact h1 hh
    have hm := magL_valM s.data.toList hhead
    have hmb : magB (numB s) = s := by
      unfold magB numB
      rw [hm]
    refine ⟨?_, hmb, fun _ hz => ?_, h2⟩
    · unfold lim
      exact Nat.lt_of_lt_of_le (valM_lt s.data.toList) (Nat.pow_le_pow_right (by omega) h2)
    · rw [hz] at hmb
      have : s.size = 0 := by rw [← hmb]; rfl
      exact h0 this
theorem valid_out (neg : Bool) (s : ByteArray) (h : validB neg s = true) : outZ (zV neg s) = wideV neg s ∧ errZ (zV neg s) = 0 ∧ (zV neg s).natAbs < lim := by
  obtain ⟨h1, h2, h3, h4⟩ := valid_spec neg s h
  have hl : (zV neg s).natAbs < lim := by unfold zV; rw [zOf_natAbs]; exact h1
  obtain ⟨e1, e2⟩ := outZ_in _ hl
  refine ⟨?_, e2, hl⟩
  rw [e1]
  unfold zV
  rw [zOf_natAbs, zOf_neg, h2]
  congr 1
  cases neg with
  | false => rfl
  | true => rw [decide_eq_true (h3 rfl)]; rfl
theorem magB_inj {a b : Nat} (h : magB a = magB b) : a = b := by
  unfold magB at h
  injection h with h
  exact magL_inj (Array.toList_inj.2 h |> fun h => by simpa using h)
theorem wideV_inj {a b : Bool} {s t : ByteArray} (h : wideV a s = wideV b t) : a = b ∧ s = t := by
  unfold wideV at h
  injection h with h
  have h1 := congrArg (fun x : Array Value => x[0]?) h
  have h2 := congrArg (fun x : Array Value => x[1]?) h
  simp at h1 h2
  exact ⟨h1, h2⟩
theorem zV_inj {a b : Bool} {s t : ByteArray} (hs : validB a s = true) (ht : validB b t = true) (h : zV a s = zV b t) : a = b ∧ s = t := by
  have h1 := (valid_out a s hs).1
  have h2 := (valid_out b t ht).1
  rw [h, h2] at h1
  have := wideV_inj h1
  exact ⟨this.1.symm, this.2.symm⟩
theorem wd_len65 {n : Nat} (h : n < lim) : (wd n).length ≤ 64 := by
  unfold wd
  refine words_length (by omega) n 64 ?_
  rw [pow4]
  exact h
end Go.Proofs.Ytdfklcmiagmgaaa
