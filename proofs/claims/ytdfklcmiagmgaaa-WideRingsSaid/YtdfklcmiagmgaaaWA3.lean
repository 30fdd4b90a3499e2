/- Walks: forms of wide integers: a number without zeros at its end. -/
import Derived.Test.YtdfklcmiagmgaaaWA2
namespace Go.Proofs.Ytdfklcmiagmgaaa
set_option linter.all false
open Go.RowKit Go.Shelf
def lenOf : Value → Nat
  | .slice _ n _ => n
  | _ => 0
def trimL (l : List Nat) : List Nat := (l.reverse.dropWhile (fun x => decide (x = 0))).reverse
theorem trimL_zero (l : List Nat) : trimL (l ++ [0]) = trimL l := by unfold trimL; rw [List.reverse_append]; simp
theorem trimL_snoc (l : List Nat) (x : Nat) (hx : x ≠ 0) : trimL (l ++ [x]) = l ++ [x] := by unfold trimL; rw [List.reverse_append]; simp [hx]
set_option maxRecDepth 100000 in
set_option maxHeartbeats 4000000 in
theorem norm_any (l : List Nat) (a : Option Addr) (cap : Nat) (hl : l.length ≤ 100000) (hcap : l.length ≤ cap) (w : World) (hc : ∀ (j : Nat) (x : Nat), l[j]? = some x → ∃ b off, a = some ⟨b, off, none⟩ ∧ w.cell? ⟨b, off + j, none⟩ = some (.int .u32 (x : Int))) :
    Calls Try.prog 52 #[.slice a l.length cap] w fun e w' => e = .returned (.slice a (trimL l).length cap) ∧ w = w' := by
  obtain ⟨R, hR⟩ : ∃ R, R = (trimL l).length := ⟨_, rfl⟩
  rw [← hR]
  obtain ⟨n, hn⟩ : ∃ n, n = l.length := ⟨_, rfl⟩
  rw [← hn] at hl hcap ⊢
  have HR := Lib.hid hR
  have HN := Lib.hid hn
  have HC := Lib.hid hc
  clear hR hn hc
  go_enter Try.func52, Try.ntmps52
  go_wp2_with fail
  go_loop [0] (fun v => ∃ k : Nat, k ≤ n ∧ v = .slice a k cap ∧ Hid (trimL (l.take k) = trimL l)) (fun v => lenOf v)
  case atStart => exact ⟨n, Nat.le_refl _, rfl, by show trimL (l.take n) = _; rw [List.take_of_length_le (by rw [← HN.out]; exact Nat.le_refl _)]⟩
  case round =>
    obtain ⟨k, hk, rfl, hT⟩ := hrel
    by_cases h0 : k = 0
    · subst h0
      have hre : R = 0 := by rw [HR.out, ← hT.out]; rfl
      subst hre
      go_wp2
      go_ret
      exact ⟨rfl, rfl⟩
    obtain ⟨j, rfl⟩ : ∃ j, k = j + 1 := ⟨k - 1, by omega⟩
    obtain ⟨x, hx⟩ : ∃ x, l[j]? = some x := ⟨l[j]'(by rw [← HN.out]; omega), List.getElem?_eq_getElem _⟩
    obtain ⟨b, off, rfl, hcell⟩ := HC.out j x hx
    have htk : l.take (j + 1) = l.take j ++ [x] := by rw [List.take_add_one, hx]; rfl
    have HTK := Lib.hid htk
    clear htk hx
    by_cases hx0 : x = 0
    · have t1 : ((x : Int) == 0) = true := by rw [hx0]; rfl
      have HX := Lib.hid hx0
      clear hx0
      go_wp2
      go_round
      case rel => exact ⟨j, by omega, rfl, by show trimL _ = _; rw [← hT.out, HTK.out, HX.out, trimL_zero]⟩
      case measure => simp [lenOf]
    · have t1 : ((x : Int) == 0) = false := by rw [beq_eq_false_iff_ne]; omega
      have hre : R = j + 1 := by
        rw [HR.out, ← hT.out, HTK.out, trimL_snoc _ _ hx0, List.length_append, List.length_take, ← HN.out]
        simp; omega
      have HRE := Lib.hid hre
      clear hre hx0
      go_wp2
      go_ret
      rw [HRE.out]
      exact ⟨rfl, rfl⟩
end Go.Proofs.Ytdfklcmiagmgaaa
