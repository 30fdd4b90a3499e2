/- Walks: the reference's weights. (NOT YET BUILT) -/
import Derived.Test.YtpcpgmgpkegjlaaGH1
import Derived.Test.YtpcpgmgpkegjlaaGH3b
import Derived.Test.YtpcpgmgpkegjlaaGF5
import Derived.Test.YtpcpgmgpkegjlaaBase
namespace Go.Proofs.Ytpcpgmgpkegjlaa
open Go.RowKit Go.Shelf Go.BigFrame
/-- The integers whose element is a weight before its other rows are struck. -/
def weightInts (n t : Nat) : List Int := ((2 ^ t : Nat) : Int) :: List.replicate (n - 1) 0
theorem weightInts_length (n t : Nat) (hn : 1 ≤ n) : (weightInts n t).length = n := by simp [weightInts]; omega
theorem weightInts_row (n q t : Nat) : (weightInts n t).map (resN q) = weightRow n q t true := by
  unfold weightInts weightRow
  rw [if_pos rfl, List.map_cons, resN_cast, List.map_replicate]
  congr 2
theorem zrow64_set (n t : Nat) (hn : 1 ≤ n) : (zrow64 n).setIfInBounds 0 (.int .i64 ((2 ^ t : Nat) : Int)) = ((weightInts n t).map i64V).toArray := by
  obtain ⟨m, rfl⟩ : ∃ m, n = m + 1 := ⟨n - 1, by omega⟩
  unfold weightInts zrow64 i64V
  simp [List.replicate_succ]
theorem zrow64_get0 (n : Nat) (hn : 1 ≤ n) : (zrow64 n)[0]? = some (.int .i64 0) := by
  obtain ⟨m, rfl⟩ : ∃ m, n = m + 1 := ⟨n - 1, by omega⟩
  unfold zrow64; simp [List.replicate_succ]
theorem intRows_weight (chain : List Nat) (n t : Nat) : intRows chain (weightInts n t) = chain.map fun q => weightRow n q t true := by
  unfold intRows
  exact List.map_congr_left fun q _ => weightInts_row n q t
/-- The rows after k of them have been looked at. -/
def wrowsTo (chain : List Nat) (n t d k : Nat) : List (List Nat) := (List.range chain.length).map fun r => if r < k then weightRow n (chain.getD r 0) t (r == d) else weightRow n (chain.getD r 0) t true
theorem wrowsTo_zero (chain : List Nat) (n t d : Nat) : wrowsTo chain n t d 0 = intRows chain (weightInts n t) := by
  rw [intRows_weight]
  unfold wrowsTo
  apply List.ext_getElem
  · simp
  · intro i h1 h2; simp [List.getD_eq_getElem?_getD] at *; rw [List.getElem?_eq_getElem (by simpa using h2)]; rfl
theorem wrowsTo_all (chain : List Nat) (n t d : Nat) : wrowsTo chain n t d chain.length = weightRows chain n t d chain.length := by
  unfold wrowsTo weightRows
  refine List.map_congr_left fun r hr => ?_
  rw [if_pos (by simpa using hr)]
theorem wrowsTo_here (chain : List Nat) (n t k : Nat) : wrowsTo chain n t k (k + 1) = wrowsTo chain n t k k := by
  unfold wrowsTo
  refine List.map_congr_left fun r _ => ?_
  by_cases h : r = k
  · subst h; simp
  · by_cases h2 : r < k
    · rw [if_pos h2, if_pos (by omega)]
    · rw [if_neg h2, if_neg (by omega)]
theorem wrowsTo_there (chain : List Nat) (n t d k : Nat) (_hk : k < chain.length) (hd : k ≠ d) : wrowsTo chain n t d (k + 1) = (wrowsTo chain n t d k).set k (List.replicate n 0) := by
  unfold wrowsTo
  apply List.ext_getElem
  · simp
  · intro i h1 h2
    simp only [List.getElem_map, List.getElem_range, List.getElem_set]
    by_cases h : k = i
    · subst h
      have : (k == d) = false := by simpa using hd
      rw [if_pos rfl, if_pos (by omega), this]
      unfold weightRow; simp
    · rw [if_neg h]
      by_cases h2 : i < k
      · rw [if_pos h2, if_pos (by omega)]
      · rw [if_neg h2, if_neg (by omega)]
end Go.Proofs.Ytpcpgmgpkegjlaa
