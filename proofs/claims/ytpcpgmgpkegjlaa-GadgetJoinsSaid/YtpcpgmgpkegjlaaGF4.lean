/- Plain: a step of the reference's cutting; lists that are made by position. -/
import Derived.Test.YtpcpgmgpkegjlaaGD2
namespace Go.Proofs.Ytpcpgmgpkegjlaa
open Go.RowKit Go.Shelf Go.BigFrame
theorem cut_div (B x : Int) (hB : 0 < B) (r t : Int) (h0 : 0 ≤ r) (h1 : r < B) (hx : x = B * t + r) : x % B = r ∧ x / B = t := by
  subst hx
  constructor
  · rw [Int.add_comm, Int.add_mul_emod_self_left]; exact Int.emod_eq_of_lt h0 h1
  · rw [Int.add_comm, Int.add_mul_ediv_left _ _ (by omega), Int.ediv_eq_zero_of_lt h0 h1]; omega
theorem cut_tdiv (B t : Int) (hB : 0 < B) : (B * t).tdiv B = t := by
  rw [Int.mul_comm]; exact Int.mul_tdiv_cancel _ (by omega)
/-- The digit, the rest. -/
theorem cut_step (h x d : Int) (hh : 0 < h) (hd : d = x.tmod (2 * h)) :
    (d < -h → d + 2 * h < h ∧ (x + h) % (2 * h) - h = d + 2 * h ∧ (x - (d + 2 * h)).tdiv (2 * h) = (x + h) / (2 * h)) ∧
    (-h ≤ d → d < h → (x + h) % (2 * h) - h = d ∧ (x - d).tdiv (2 * h) = (x + h) / (2 * h)) ∧
    (h ≤ d → (x + h) % (2 * h) - h = d - 2 * h ∧ (x - (d - 2 * h)).tdiv (2 * h) = (x + h) / (2 * h)) ∧ -(2 * h) < d ∧ d < 2 * h := by
  have e := Int.mul_tdiv_add_tmod x (2 * h)
  have l1 := Int.tmod_lt_of_pos x (show 0 < 2 * h by omega)
  have l2 := Int.lt_tmod_of_pos x (show 0 < 2 * h by omega)
  rw [← hd] at e l1 l2
  generalize x.tdiv (2 * h) = t at e
  refine ⟨fun c => ?_, fun c1 c2 => ?_, fun c => ?_, by omega, l1⟩
  · obtain ⟨k1, k2⟩ := cut_div (2 * h) (x + h) (by omega) (d + 2 * h + h) (t - 1) (by omega) (by omega) (by rw [Int.mul_sub]; omega)
    refine ⟨by omega, by omega, ?_⟩
    rw [k2, show x - (d + 2 * h) = 2 * h * (t - 1) by rw [Int.mul_sub]; omega]
    exact cut_tdiv _ _ (by omega)
  · obtain ⟨k1, k2⟩ := cut_div (2 * h) (x + h) (by omega) (d + h) t (by omega) (by omega) (by omega)
    refine ⟨by omega, ?_⟩
    rw [k2, show x - d = 2 * h * t by omega]
    exact cut_tdiv _ _ (by omega)
  · obtain ⟨k1, k2⟩ := cut_div (2 * h) (x + h) (by omega) (d - 2 * h + h) (t + 1) (by omega) (by omega) (by rw [Int.mul_add]; omega)
    refine ⟨by omega, ?_⟩
    rw [k2, show x - (d - 2 * h) = 2 * h * (t + 1) by rw [Int.mul_add]; omega]
    exact cut_tdiv _ _ (by omega)
theorem xs_bound (h : Int) (hh : 1 ≤ h) (x : Int) (M : Int) (hM : 1 ≤ M) (h1 : -M ≤ x) (h2 : x ≤ M) : ∀ k, -M ≤ xsI h x k ∧ xsI h x k ≤ M
  | 0 => ⟨h1, h2⟩
  | k + 1 => by
    obtain ⟨i1, i2⟩ := xs_bound h hh x M hM h1 h2 k
    show -M ≤ (xsI h x k + h) / (2 * h) ∧ (xsI h x k + h) / (2 * h) ≤ M
    have hm : M ≤ M * (2 * h) := by
      have := Int.mul_le_mul_of_nonneg_left (show 1 ≤ 2 * h by omega) (show 0 ≤ M by omega)
      omega
    constructor
    · rw [Int.le_ediv_iff_mul_le (by omega), Int.neg_mul]; omega
    · have : (xsI h x k + h) / (2 * h) < M + 1 := by
        rw [Int.ediv_lt_iff_lt_mul (by omega), Int.add_mul]; omega
      omega
/-- The digits of an integer. -/
def cutL (h : Int) (P : Nat) (x : Int) : List Int := (List.range P).map (digI h P x)
theorem cutTo_succ (h : Int) (P : Nat) (x : Int) (k : Nat) : (List.range (k + 1)).map (digI h P x) = (List.range k).map (digI h P x) ++ [digI h P x k] := by
  rw [List.range_succ, List.map_append]; rfl
theorem map_range_succ {α : Type} (f : Nat → α) (k : Nat) : (List.range (k + 1)).map f = (List.range k).map f ++ [f k] := by
  rw [List.range_succ, List.map_append]; rfl
theorem map_range_map_succ {α β : Type} (g : α → β) (f : Nat → α) (k : Nat) : ((List.range (k + 1)).map f).map g = ((List.range k).map f).map g ++ [g (f k)] := by
  rw [map_range_succ, List.map_append]; rfl
end Go.Proofs.Ytpcpgmgpkegjlaa
