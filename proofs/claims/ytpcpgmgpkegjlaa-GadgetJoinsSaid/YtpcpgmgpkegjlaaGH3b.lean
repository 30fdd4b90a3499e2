/- What the functions answer that make an element, or refuse: the two ways. -/
import Derived.Test.YtpcpgmgpkegjlaaGH3
import Derived.Deep.RegionHeld3
namespace Go.Proofs.Ytpcpgmgpkegjlaa
open Go.RowKit Go.Shelf Go.BigFrame
theorem EltPost.ok_ {lv : Int} {s : Bool} {rows : List (List Nat)} {w w' : World} {rv : Value} (h : w'.rowsO u32V w.heap.size 23 22 rv rows) (hb : Below w.heap.size w w') : EltPost true lv s rows w (.returned (.tuple #[.agg #[.int .i64 lv, .bool s, rv], .int .i64 0])) w' := ⟨by rw [if_pos rfl]; exact ⟨rv, rfl, h⟩, hb⟩
theorem EltPost.no_ {lv : Int} {s : Bool} {rows : List (List Nat)} {w w' : World} (hb : Below w.heap.size w w') : EltPost false lv s rows w (.returned (.tuple #[.agg #[.int .i64 0, .bool false, .slice none 0 0], .int .i64 2])) w' := ⟨by rw [if_neg (by decide)], hb⟩
theorem twoB_parts {N : Int} {chain : List Nat} {sp : Nat} {la lb : Int} {sa sb : Bool} {xs ys : List (List Nat)} (h : twoB N chain sp la lb sa sb xs ys = true) :
    la = lb ∧ sa = sb ∧ checkB N chain sp la sa xs = true ∧ checkB N chain sp la sa ys = true := by
  unfold twoB at h
  simp only [Bool.and_eq_true, decide_eq_true_eq] at h
  obtain ⟨⟨⟨h1, h2⟩, rfl⟩, rfl⟩ := h
  exact ⟨rfl, rfl, h1, h2⟩
theorem twoB_elt {N : Int} {chain : List Nat} {sp : Nat} {la lb : Int} {sa sb : Bool} {xs ys : List (List Nat)} (h : twoB N chain sp la lb sa sb xs ys = true) :
    la = lb ∧ sa = sb ∧ ∃ n lv : Nat, N = (n : Int) ∧ la = (lv : Int) ∧ 4 ≤ n ∧ n ≤ 32 ∧ 1 ≤ lv ∧ lv ≤ chain.length ∧ chain.length ≤ 24 ∧ (∀ q ∈ modl chain sp lv sa, 3 ≤ q ∧ q ≤ 2147483647) ∧ EltOk n (modl chain sp lv sa) xs ∧ EltOk n (modl chain sp lv sa) ys := by
  obtain ⟨h1, h2, h3, h4⟩ := twoB_parts h
  obtain ⟨n, lv, rfl, rfl, i1, i2, i3, i4, i5, i6, i7⟩ := checkB_elt h3
  obtain ⟨n', lv', e1, e2, -, -, -, -, -, -, j7⟩ := checkB_elt h4
  obtain rfl : n = n' := by omega
  obtain rfl : lv = lv' := by omega
  exact ⟨h1, h2, n, lv, rfl, rfl, i1, i2, i3, i4, i5, i6, i7, j7⟩
theorem owns_empty (w : World) (e : TypeId) : (w.alloc (.cells #[] e)).owns w.heap.size e 1 (.slice (some ⟨w.heap.size, 0, none⟩) 0 0) 0 [] :=
  ⟨rfl, .inr ⟨w.heap.size, 0, #[], (0, 0), rfl, Nat.le_refl _, heap_alloc_new w _, okFz_zero _, Nat.le_refl _, Nat.zero_le _, rfl, rfl⟩⟩
end Go.Proofs.Ytpcpgmgpkegjlaa
