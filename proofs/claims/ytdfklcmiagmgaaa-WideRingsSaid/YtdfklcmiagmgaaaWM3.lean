/- Plain: numbers in words: a number without zeros at its end is that of its value. -/
import Derived.Test.YtdfklcmiagmgaaaWM2
namespace Go.Proofs.Ytdfklcmiagmgaaa
set_option linter.all false
open Go.WideNum
theorem trimL_trimmed (l : List Nat) : Go.WideNum.trimmed (trimL l) := by
  have : ∀ r : List Nat, Go.WideNum.trimmed (trimL r.reverse) := by
    intro r
    induction r with
    | nil => intro x hx; simp [trimL] at hx
    | cons x r ih =>
      rw [List.reverse_cons]
      by_cases hx : x = 0
      · subst hx
        rw [trimL_zero]; exact ih
      · rw [trimL_snoc _ _ hx]
        intro y hy
        rw [List.getLast?_append] at hy
        simp at hy
        rw [← hy]; exact hx
  have := this l.reverse
  rwa [List.reverse_reverse] at this
theorem trimL_sub (l : List Nat) : ∀ x ∈ trimL l, x ∈ l := by
  intro x hx
  unfold trimL at hx
  have h1 := List.mem_reverse.1 hx
  have h2 := (List.dropWhile_sublist (fun x => decide (x = 0))).subset h1
  exact List.mem_reverse.1 h2
theorem trimL_words (B : Nat) (hB : 1 < B) (l : List Nat) (hl : ∀ x ∈ l, x < B) : trimL l = words B (valW B l) := by
  have h := words_val hB (trimL l) (fun x hx => hl x (trimL_sub l x hx)) (trimL_trimmed l) (valW B (trimL l)) (Nat.le_refl _)
  unfold words
  rw [trimL_val] at h
  exact h.symm
end Go.Proofs.Ytdfklcmiagmgaaa
