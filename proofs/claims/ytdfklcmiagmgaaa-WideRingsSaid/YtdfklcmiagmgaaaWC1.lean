/- Walks: numbers compared, and added with signs. -/
import Derived.Test.YtdfklcmiagmgaaaWB9
import Derived.Test.YtdfklcmiagmgaaaWB2
import Derived.Test.YtdfklcmiagmgaaaWB3
namespace Go.Proofs.Ytdfklcmiagmgaaa
set_option linter.all false
open Go.RowKit Go.Shelf Go.WideNum
def cmpN (A C : Nat) : Int := if A < C then -1 else if C < A then 1 else 0
theorem valW_wd (n : Nat) : valW 4294967296 (wd n) = n := val_words (by omega) n n (Nat.le_refl _)
theorem valW_hw (n : Nat) : valW 65536 (hw n) = n := val_words (by omega) n n (Nat.le_refl _)
theorem wd_len_lt {A C : Nat} (h : (wd A).length < (wd C).length) : A < C := by
  rcases Nat.lt_or_ge A C with h1 | h1
  · exact h1
  · exfalso
    have h2 := words_length (B := 4294967296) (by omega) C (wd A).length (Nat.lt_of_le_of_lt h1 (wd_vlt A))
    unfold wd at h h2
    omega
theorem cmpL_wd (A C : Nat) : cmpL (wd A) (wd C) = cmpN A C := by
  unfold cmpL cmpN
  split
  · rename_i h; rw [if_pos (wd_len_lt h)]
  · split
    · rename_i h1 h2
      have := wd_len_lt h2
      rw [if_neg (by omega), if_pos this]
    · rename_i h1 h2
      have hl : (wd A).length = (wd C).length := by omega
      rw [cmpTo_val 4294967296 (by omega) (wd A) (wd C) (words_lt (by omega) _ _) (words_lt (by omega) _ _) _ (Nat.le_refl _) (by omega)]
      rw [List.take_length, hl, List.take_length, valW_wd, valW_wd]
theorem compare_num (A C : Nat) (va vb : Value) (w : World) (hA : w.reads w.heap.size va ((wd A).map u32V)) (hC : w.reads w.heap.size vb ((wd C).map u32V))
    (hla : (wd A).length ≤ 2000) (hlc : (wd C).length ≤ 2000) :
    Calls Try.prog 65 #[va, vb] w fun e w' => e = .returned (.int .i64 (cmpN A C)) ∧ ∃ n, w' = w.drewN n := by
  obtain ⟨aa, ca, rfl, hca, hma, hsa⟩ := reads_u32 hA
  obtain ⟨ab, cb, rfl, hcb, hmb, hsb⟩ := reads_u32 hC
  have := compare_any (wd A) (wd C) aa ab ca cb (by omega) (by omega) w (fun j x hj => by obtain ⟨b, o, h1, _, h2⟩ := hsa j x hj; exact ⟨b, o, h1, h2⟩) (fun j x hj => by obtain ⟨b, o, h1, _, h2⟩ := hsb j x hj; exact ⟨b, o, h1, h2⟩)
  rwa [cmpL_wd] at this
theorem reads_drewN {w : World} {v : Value} {xs : List Value} (h : w.reads w.heap.size v xs) (n : Nat) : (w.drewN n).reads (w.drewN n).heap.size v xs := h.drewN n
/-- The sum of two numbers with signs: the sign, and the absolute value. -/
def sumS (A : Nat) (an : Bool) (C : Nat) (bn : Bool) : Bool := if an = bn then an else if A < C then bn else an
def sumN (A : Nat) (an : Bool) (C : Nat) (bn : Bool) : Nat := if an = bn then A + C else if A < C then C - A else A - C
def NumBool (w : World) (n : Nat) (s : Bool) (e : Ending) (w' : World) : Prop := ∃ v, e = .returned (.tuple #[v, .bool s]) ∧ NumRet w n (.returned v) w'
theorem NumRet.back_drew {w : World} {n k : Nat} {e : Ending} {w' : World} (h : NumRet (w.drewN k) n e w') : NumRet w n e w' := h.back (below_drewN (Below.refl _ _) k)
set_option maxRecDepth 100000 in
set_option maxHeartbeats 4000000 in
theorem sum_any (A C : Nat) (an bn : Bool) (va vb : Value) (w : World) (hA : w.reads w.heap.size va ((wd A).map u32V)) (hC : w.reads w.heap.size vb ((wd C).map u32V))
    (hla : (wd A).length ≤ 2000) (hlc : (wd C).length ≤ 2000) :
    Calls Try.prog 66 #[va, .bool an, vb, .bool bn] w (NumBool w (sumN A an C bn) (sumS A an C bn)) := by
  obtain ⟨HPOST, hpost⟩ : ∃ R, R = NumBool w (sumN A an C bn) (sumS A an C bn) := ⟨_, rfl⟩
  rw [← hpost]
  have HP := Lib.hid hpost
  have HA := Lib.hid hA
  have HC := Lib.hid hC
  clear hpost hA hC
  obtain ⟨aa, ca, rfl, -, -, -⟩ := reads_u32 HA.out
  obtain ⟨ab, cb, rfl, -, -, -⟩ := reads_u32 HC.out
  by_cases hs : an = bn
  · subst hs
    go_enter Try.func66, Try.ntmps66
    go_wp2_with fail
    (with_reducible refine (plus_any A C _ _ w HA.out HC.out hla hlc).mono ?_)
    rintro e w1 hr
    obtain ⟨v, rfl, hr1, hr2⟩ := hr
    have HR : Hid (NumRet w (A + C) (.returned v) w1) := ⟨v, rfl, hr1, hr2⟩
    clear hr1 hr2
    go_wp2
    rw [HP.out]
    refine ⟨v, ?_, ?_⟩
    · unfold sumS; rw [if_pos rfl]; rfl
    · unfold sumN; rw [if_pos rfl]; exact HR.out
  · have hne : (an == bn) = false := by rw [beq_eq_false_iff_ne]; exact hs
    obtain ⟨R, hR⟩ : ∃ R, R = cmpN A C := ⟨_, rfl⟩
    have hcmp := compare_num A C _ _ w HA.out HC.out hla hlc
    rw [← hR] at hcmp
    have HCMP := Lib.hid hcmp
    clear hcmp
    by_cases hlt : A < C
    · have hre : R = -1 := by rw [hR, cmpN, if_pos hlt]
      subst hre
      clear hR
      go_enter Try.func66, Try.ntmps66
      go_wp2_with fail
      (with_reducible refine (HCMP.out).mono ?_)
      rintro e w1 ⟨rfl, n1, rfl⟩
      go_wp2_with fail
      (with_reducible refine (minus_any C A (Nat.le_of_lt hlt) _ _ (w.drewN n1) (reads_drewN HC.out n1) (reads_drewN HA.out n1) hlc hla).mono ?_)
      rintro e w1 hr
      obtain ⟨v, rfl, hr1, hr2⟩ := hr.back_drew
      have HR : Hid (NumRet w (C - A) (.returned v) w1) := ⟨v, rfl, hr1, hr2⟩
      clear hr hr1 hr2
      go_wp2
      rw [HP.out]
      refine ⟨v, ?_, ?_⟩
      · unfold sumS; rw [if_neg hs, if_pos hlt]; rfl
      · unfold sumN; rw [if_neg hs, if_pos hlt]; exact HR.out
    · have hre : R = 0 ∨ R = 1 := by
        rw [hR, cmpN, if_neg hlt]
        split
        · exact Or.inr rfl
        · exact Or.inl rfl
      have hR0 : ¬ R < 0 := by omega
      clear hR hre
      go_enter Try.func66, Try.ntmps66
      go_wp2_with fail
      (with_reducible refine (HCMP.out).mono ?_)
      rintro e w1 ⟨rfl, n1, rfl⟩
      go_wp2_with fail
      (with_reducible refine (minus_any A C (by omega) _ _ (w.drewN n1) (reads_drewN HA.out n1) (reads_drewN HC.out n1) hla hlc).mono ?_)
      rintro e w1 hr
      obtain ⟨v, rfl, hr1, hr2⟩ := hr.back_drew
      have HR : Hid (NumRet w (A - C) (.returned v) w1) := ⟨v, rfl, hr1, hr2⟩
      clear hr hr1 hr2
      go_wp2
      rw [HP.out]
      refine ⟨v, ?_, ?_⟩
      · unfold sumS; rw [if_neg hs, if_neg hlt]; rfl
      · unfold sumN; rw [if_neg hs, if_neg hlt]; exact HR.out
end Go.Proofs.Ytdfklcmiagmgaaa
