/- Plain: the digits of a restricted element are the first ones. -/
import Derived.Test.YtpcpgmgpkegjlaaGD4
namespace Go.Proofs.Ytpcpgmgpkegjlaa
open Go.RowKit Go.Shelf Go.BigFrame
theorem checkB_mk {n lv : Nat} {chain : List Nat} {sp : Nat} {rows : List (List Nat)} (hv : validB (n : Int) chain sp = true) (h1 : 1 ≤ lv) (h2 : lv ≤ chain.length) (hl : rows.length = lv) (hok : RowsOk n chain rows) : checkB (n : Int) chain sp (lv : Int) false rows = true := by
  have hml := modl_length chain sp lv false h2
  unfold checkB preB placeB levB
  rw [hv]
  have hl' : rows.length = (modl chain sp lv false).length := by rw [hml, hl]; rfl
  have hall : (List.finRange (modl chain sp lv false).length).all (okRow (n : Int) (modl chain sp lv false) rows) = true := by
    rw [List.all_eq_true]
    intro x _
    obtain ⟨x, hx⟩ := x
    have hxl : x < lv := by rw [hml] at hx; simpa using hx
    obtain ⟨r, hr⟩ : ∃ r, rows[x]? = some r := ⟨rows[x]'(by omega), List.getElem?_eq_getElem _⟩
    obtain ⟨k1, q, hq, k2⟩ := hok x r hr
    have hq2 : (modl chain sp lv false)[x]? = some q := by
      unfold modl
      simp only [Bool.false_eq_true, if_false, List.append_nil]
      rw [List.getElem?_take, if_pos hxl]; exact hq
    have hq3 : (modl chain sp lv false)[x] = q := by
      rw [List.getElem?_eq_getElem hx] at hq2; injection hq2
    unfold okRow
    simp only [hr, Option.any_some, Bool.and_eq_true, decide_eq_true_eq, Bool.not_eq_true']
    refine ⟨by omega, ?_⟩
    unfold anyGe
    rw [List.any_eq_false]
    intro y hy
    have := k2 y hy
    show ¬ decide (_ ≤ y) = true
    rw [hq3]
    simp; omega
  simp only [Int.toNat_natCast]
  rw [hall]
  simp [hl']
  omega
theorem RowsOk.take {n : Nat} {chain : List Nat} {rows : List (List Nat)} (h : RowsOk n chain rows) (k : Nat) : RowsOk n chain (rows.take k) := fun i r hr => by
  rw [List.getElem?_take] at hr
  split at hr
  · exact h i r hr
  · cases hr
theorem digB_parts {N : Int} {chain : List Nat} {sp : Nat} {width level : Int} {special : Bool} {rows : List (List Nat)} (h : digB N chain sp width level special rows = true) :
    special = false ∧ 2 ≤ width ∧ width ≤ 31 ∧ madeB N chain sp width = true ∧ ∃ n lv : Nat, N = (n : Int) ∧ level = (lv : Int) ∧ 4 ≤ n ∧ n ≤ 32 ∧ 1 ≤ lv ∧ lv ≤ chain.length ∧ rows.length = lv ∧ RowsOk n chain rows := by
  unfold digB at h
  simp only [Bool.and_eq_true, Bool.not_eq_true'] at h
  obtain ⟨⟨⟨h1, h2⟩, rfl⟩, h4⟩ := h
  obtain ⟨hw1, hw2, -, -⟩ := madeB_parts h1
  exact ⟨rfl, hw1, hw2, h1, checkB_parts h4⟩
theorem digB_take {N : Int} {chain : List Nat} {sp : Nat} {width level : Int} {special : Bool} {rows : List (List Nat)} (h : digB N chain sp width level special rows = true) (k : Nat) (hk1 : 1 ≤ k) (hk2 : (k : Int) ≤ level) :
    digB N chain sp width (k : Int) false (rows.take k) = true := by
  obtain ⟨rfl, hw1, hw2, hm, n, lv, rfl, rfl, i1, i2, i3, i4, i5, i6⟩ := digB_parts h
  unfold digB
  rw [hm, checkB_mk (madeB_parts hm).2.2.1 hk1 (by omega) (by rw [List.length_take]; omega) (i6.take k)]
  unfold levB
  simp; omega
theorem digRows_take (N : Int) (chain : List Nat) (width : Int) (hw1 : 2 ≤ width) (hw2 : width ≤ 31) (lv k : Nat) (hk : k ≤ lv) (rows : List (List Nat)) :
    digRows N chain width (k : Int) (rows.take k) = (digRows N chain width (lv : Int) rows).take (k * (partsI width).toNat) := by
  have hpb := parts_bound hw1 hw2
  obtain ⟨P, hP⟩ : ∃ P, P = (partsI width).toNat := ⟨_, rfl⟩
  unfold digRows digL
  rw [← hP, ← List.map_take, List.take_range]
  simp only [Int.toNat_natCast]
  rw [Nat.min_eq_left (Nat.mul_le_mul_right _ hk)]
  refine List.map_congr_left fun r hr => List.map_congr_left fun c hc => ?_
  rw [List.mem_range] at hr
  have hrk : r / P < k := (Nat.div_lt_iff_lt_mul (by omega)).2 hr
  unfold digT
  congr 3
  rw [List.getD_eq_getElem?_getD, List.getD_eq_getElem?_getD, List.getElem?_take, if_pos hrk]
theorem digRows_length (N : Int) (chain : List Nat) (width : Int) (lv : Int) (rows : List (List Nat)) : (digRows N chain width lv rows).length = lv.toNat * (partsI width).toNat := by simp [digRows, digL]
end Go.Proofs.Ytpcpgmgpkegjlaa
