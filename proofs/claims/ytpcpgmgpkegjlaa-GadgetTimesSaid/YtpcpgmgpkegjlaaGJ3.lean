/- Plain: what the functions make passes the check. -/
import Derived.Test.YtpcpgmgpkegjlaaGJ2
import Derived.Test.YtpcpgmgpkegjlaaGH3b
namespace Go.Proofs.Ytpcpgmgpkegjlaa
open Go.RowKit Go.Shelf Go.BigFrame
theorem checkB_of_elt {n lv : Nat} {chain : List Nat} {sp : Nat} {special : Bool} {rows : List (List Nat)} (hv : validB (n : Int) chain sp = true) (hp : placeB chain sp (lv : Int) special = true) (he : EltOk n (modl chain sp lv special) rows) : checkB (n : Int) chain sp (lv : Int) special rows = true := by
  unfold checkB preB
  rw [hv, hp]
  simp only [Int.toNat_natCast, Bool.true_and, Bool.and_eq_true, decide_eq_true_eq]
  refine ⟨he.1, ?_⟩
  rw [List.all_eq_true]
  intro x _
  obtain ⟨x, hx⟩ := x
  obtain ⟨r, hr⟩ : ∃ r, rows[x]? = some r := ⟨rows[x]'(by rw [he.1]; exact hx), List.getElem?_eq_getElem _⟩
  obtain ⟨k1, q, hq, k2⟩ := he.2 x r hr
  have hq3 : (modl chain sp lv special)[x] = q := by
    rw [List.getElem?_eq_getElem hx] at hq; injection hq
  unfold okRow
  simp only [hr, Option.any_some, Bool.and_eq_true, decide_eq_true_eq, Bool.not_eq_true']
  refine ⟨by omega, ?_⟩
  unfold anyGe
  rw [List.any_eq_false]
  intro y hy
  have := k2 y hy
  show ¬ decide (_ ≤ y) = true
  rw [hq3]
  simp; omega
theorem EltOk.ofMap {n : Nat} {ml : List Nat} (f : Nat → List Nat) (h : ∀ i q, ml[i]? = some q → (f i).length = n ∧ ∀ x ∈ f i, x < q) : EltOk n ml ((List.range ml.length).map f) := by
  refine ⟨by simp, fun i r hr => ?_⟩
  have hi : i < ml.length := by
    have := (List.getElem?_eq_some_iff.1 hr).1
    simpa using this
  obtain rfl : f i = r := by
    rw [List.getElem?_map, List.getElem?_range hi, Option.map_some] at hr
    injection hr
  exact ⟨(h i _ (List.getElem?_eq_getElem hi)).1, _, List.getElem?_eq_getElem hi, (h i _ (List.getElem?_eq_getElem hi)).2⟩
theorem EltOk.zip {n : Nat} {ml : List Nat} (f : Nat → List Nat → List Nat → List Nat) (xs ys : List (List Nat)) (h : ∀ q ∈ ml, ∀ a b, (f q a b).length = n ∧ ∀ x ∈ f q a b, x < q) : EltOk n ml (zipRows f ml xs ys ml.length) := by
  unfold zipRows
  refine EltOk.ofMap _ fun i q hq => ?_
  have hg : ml.getD i 0 = q := by rw [List.getD_eq_getElem?_getD, hq]; rfl
  rw [hg]
  exact h q (List.mem_of_getElem? hq) _ _
theorem prodRow_ok (n q : Nat) (hq : 0 < q) (a b : List Nat) : (prodRow n q a b).length = n ∧ ∀ x ∈ prodRow n q a b, x < q := by
  refine ⟨by simp [prodRow], fun x hx => ?_⟩
  unfold prodRow at hx
  rw [List.mem_map] at hx
  obtain ⟨k, _, rfl⟩ := hx
  exact resN_lt q _ hq
theorem sumRow_ok (k : Int) (n q : Nat) (hq : 0 < q) (a b : List Nat) : (sumRow k n q a b).length = n ∧ ∀ x ∈ sumRow k n q a b, x < q := by
  refine ⟨by simp [sumRow], fun x hx => ?_⟩
  unfold sumRow at hx
  rw [List.mem_map] at hx
  obtain ⟨j, _, rfl⟩ := hx
  exact Nat.mod_lt _ hq
theorem intRows_ok {n : Nat} {ml : List Nat} (hq : ∀ q ∈ ml, 0 < q) (l : List Int) (hl : l.length = n) : EltOk n ml (intRows ml l) := by
  unfold intRows
  refine ⟨by simp, fun i r hr => ?_⟩
  rw [List.getElem?_map] at hr
  cases hq' : ml[i]? with
  | none => rw [hq'] at hr; cases hr
  | some q =>
    rw [hq', Option.map_some] at hr
    obtain rfl : l.map (resN q) = r := by injection hr
    refine ⟨by simp [hl], q, rfl, fun x hx => ?_⟩
    rw [List.mem_map] at hx
    obtain ⟨z, _, rfl⟩ := hx
    exact resN_lt q _ (hq q (List.mem_of_getElem? hq'))
theorem weightRows_ok {chain : List Nat} {n t d : Nat} (hn : 1 ≤ n) (hq : ∀ q ∈ chain, 0 < q) : EltOk n chain (weightRows chain n t d chain.length) := by
  unfold weightRows
  refine EltOk.ofMap _ fun i q hqi => ?_
  have hg : chain.getD i 0 = q := by rw [List.getD_eq_getElem?_getD, hqi]; rfl
  rw [hg]
  have h0 := hq q (List.mem_of_getElem? hqi)
  refine ⟨weightRow_length _ _ _ _ hn, fun x hx => ?_⟩
  unfold weightRow at hx
  split at hx
  · rcases List.mem_cons.1 hx with rfl | hx
    · exact Nat.mod_lt _ h0
    · rw [List.mem_replicate] at hx; omega
  · rw [List.mem_replicate] at hx; omega
theorem EltOk.take {n lv L : Nat} {chain : List Nat} {sp : Nat} {rows : List (List Nat)} (h : EltOk n (modl chain sp lv false) rows) (hL : L ≤ lv) (hlv : lv ≤ chain.length) : EltOk n (modl chain sp L false) (rows.take L) := by
  have m1 := modl_length chain sp lv false hlv
  have m2 := modl_length chain sp L false (by omega)
  refine ⟨by rw [List.length_take, h.1, m1, m2]; simp; omega, fun i r hr => ?_⟩
  rw [List.getElem?_take] at hr
  split at hr
  · rename_i hi
    obtain ⟨k1, q, hq, k2⟩ := h.2 i r hr
    refine ⟨k1, q, ?_, k2⟩
    unfold modl at hq ⊢
    simp only [Bool.false_eq_true, if_false, List.append_nil, List.getElem?_take] at hq ⊢
    rw [if_pos hi]
    rw [if_pos (by omega)] at hq
    exact hq
  · cases hr
theorem modl_all (chain : List Nat) (sp : Nat) : modl chain sp chain.length false = chain := by unfold modl; simp
theorem modl_getD (chain : List Nat) (sp lv r : Nat) (hr : r < lv) : (modl chain sp lv false).getD r 0 = chain.getD r 0 := by
  unfold modl
  simp only [Bool.false_eq_true, if_false, List.append_nil, List.getD_eq_getElem?_getD, List.getElem?_take]
  rw [if_pos hr]
theorem placeB_ok {chain : List Nat} {sp lv : Nat} (h1 : 1 ≤ lv) (h2 : lv ≤ chain.length) : placeB chain sp (lv : Int) false = true := by
  unfold placeB levB
  simp; omega
theorem twoB_mk {N : Int} {chain : List Nat} {sp : Nat} {l : Int} {s : Bool} {xs ys : List (List Nat)} (h1 : checkB N chain sp l s xs = true) (h2 : checkB N chain sp l s ys = true) : twoB N chain sp l l s s xs ys = true := by
  unfold twoB; rw [h1, h2]; simp
theorem intRows_range (ml : List Nat) (l : List Int) (lv : Nat) (h : ml.length = lv) : intRows ml l = (List.range lv).map fun r => l.map (resN (ml.getD r 0)) := by
  unfold intRows
  apply List.ext_getElem
  · simp [h]
  · intro i h1 h2
    simp only [List.getElem_map, List.getElem_range]
    rw [List.getD_eq_getElem?_getD, List.getElem?_eq_getElem (by simpa using h1)]
    rfl
theorem intRows_zero (ml : List Nat) (n lv : Nat) (h : ml.length = lv) : intRows ml (List.replicate n 0) = (List.range lv).map fun _ => List.replicate n 0 := by
  rw [intRows_range ml _ lv h]
  refine List.map_congr_left fun r _ => ?_
  rw [List.map_replicate]
  congr 1
theorem timesRows_ok {w P n lv : Nat} {ml : List Nat} {ys : List (List Nat)} {ls : List (List Int)} {c : Nat} (h : ml.length = lv) (hq : ∀ q ∈ ml, 0 < q) : EltOk n ml (timesRows w P n ml ys ls lv c) := by
  unfold timesRows
  subst h
  refine EltOk.ofMap _ fun i q hqi => ?_
  have hg : ml.getD i 0 = q := by rw [List.getD_eq_getElem?_getD, hqi]; rfl
  rw [hg]
  refine ⟨by simp, fun x hx => ?_⟩
  rw [List.mem_map] at hx
  obtain ⟨k, _, rfl⟩ := hx
  exact resN_lt q _ (hq q (List.mem_of_getElem? hqi))
end Go.Proofs.Ytpcpgmgpkegjlaa
