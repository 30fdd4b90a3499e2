/- Plain: what is cut is put together again, and no digit is greater than the bound. -/
import Derived.Test.YtpcpgmgpkegjlaaGE3
namespace Go.Proofs.Ytpcpgmgpkegjlaa
open Go.RowKit Go.Shelf Go.BigFrame
theorem xs_step (h x : Int) (k : Nat) : xsI h x k = 2 * h * xsI h x (k + 1) + ((xsI h x k + h) % (2 * h) - h) := by
  have := Int.mul_ediv_add_emod (xsI h x k + h) (2 * h)
  show _ = 2 * h * ((xsI h x k + h) / (2 * h)) + _
  omega
theorem joinStep_mod (q : Nat) (width : Int) (s d : Int) : ∃ t, joinStep q width s d = s * 2 ^ width.toNat + d + (q : Int) * t := by
  unfold joinStep
  rw [Int.tmod_def (s * 2 ^ width.toNat), Int.tmod_def d, Int.tmod_def]
  generalize (s * 2 ^ width.toNat).tdiv (q : Int) = a
  generalize d.tdiv (q : Int) = b
  generalize (_ : Int).tdiv (q : Int) = c
  refine ⟨-a - b - c, ?_⟩
  simp only [Int.mul_sub, Int.mul_neg]
  omega
theorem joinSum_mod (q : Nat) (width : Int) (hw1 : 2 ≤ width) (hw2 : width ≤ 31) (h : Int) (hh : h = 2 ^ (width - 1).toNat) (P : Nat) (x : Int) (f : Nat → Int) (hf : ∀ k, k < P → f k = digI h P x k) :
    ∀ c, c < P → ∃ t, joinSum q width P f (c + 1) = xsI h x (P - 1 - c) + (q : Int) * t := by
  intro c
  induction c with
  | zero =>
    intro hc
    obtain ⟨t, ht⟩ := joinStep_mod q width 0 (f (P - 1 - 0))
    refine ⟨t, ?_⟩
    show joinStep q width (joinSum q width P f 0) _ = _
    show joinStep q width 0 _ = _
    rw [ht, hf _ (by omega)]
    unfold digI
    rw [if_neg (by omega)]
    omega
  | succ c ih =>
    intro hc
    obtain ⟨t, ht⟩ := ih (by omega)
    obtain ⟨u, hu⟩ := joinStep_mod q width (joinSum q width P f (c + 1)) (f (P - 1 - (c + 1)))
    refine ⟨t * 2 ^ width.toNat + u, ?_⟩
    show joinStep q width (joinSum q width P f (c + 1)) (f (P - 1 - (c + 1))) = _
    rw [hu, ht, hf _ (by omega)]
    have hx := xs_step h x (P - 1 - (c + 1))
    rw [show P - 1 - (c + 1) + 1 = P - 1 - c by omega] at hx
    unfold digI
    rw [if_pos (by omega), pow_split hw1 hw2, ← hh, Int.add_mul, Int.mul_add]
    rw [Int.mul_comm (xsI h x (P - 1 - c)) (2 * h), Int.mul_assoc (q : Int) t]
    omega
theorem joinEntry_back (q r : Nat) (hr : r < q) (width : Int) (hw1 : 2 ≤ width) (hw2 : width ≤ 31) (h : Int) (hh : h = 2 ^ (width - 1).toNat) (P : Nat) (hP : 1 ≤ P) (f : Nat → Int) (hf : ∀ k, k < P → f k = digI h P (cent q r) k) : joinEntry q width P f = r := by
  obtain ⟨t, ht⟩ := joinSum_mod q width hw1 hw2 h hh P (cent q r) f hf (P - 1) (by omega)
  rw [show P - 1 + 1 = P by omega, show P - 1 - (P - 1) = 0 by omega] at ht
  have hx : xsI h (cent q r) 0 = cent q r := rfl
  rw [hx] at ht
  obtain ⟨u, hu⟩ : ∃ u, joinSum q width P f P = (r : Int) + (q : Int) * u := by
    unfold cent at ht
    split at ht
    · exact ⟨t - 1, by rw [ht, Int.mul_sub]; omega⟩
    · exact ⟨t, ht⟩
  have hrange := joinSum_range q (by omega) width P f P
  unfold joinEntry
  rw [Int.tmod_eq_emod_of_nonneg (by omega), hu]
  have : ((r : Int) + (q : Int) * u + (q : Int)) % (q : Int) = (r : Int) := by
    rw [Int.add_emod_right, Int.add_mul_emod_self_left]
    exact Int.emod_eq_of_lt (by omega) (by omega)
  rw [this]; omega
theorem partsI_ceil {width : Int} (h1 : 2 ≤ width) (h2 : width ≤ 31) : width * (partsI width - 1) ≤ 30 ∧ 31 ≤ width * partsI width := by
  unfold partsI
  have a := Int.mul_ediv_add_emod (31 + width - 1) width
  have b := Int.emod_nonneg (31 + width - 1) (show width ≠ 0 by omega)
  have c := Int.emod_lt_of_pos (31 + width - 1) (show 0 < width by omega)
  rw [Int.mul_sub]
  omega
theorem xs_small (width : Nat) (hw1 : 2 ≤ width) (h : Int) (hh : h = 2 ^ (width - 1)) (x : Int) (hx1 : -1073741824 ≤ x) (hx2 : x ≤ 1073741824) :
    ∀ k, width * k ≤ 30 → -(2 ^ (30 - width * k) : Int) ≤ xsI h x k ∧ xsI h x k ≤ (2 ^ (30 - width * k) : Int)
  | 0, _ => by
    have : (2 : Int) ^ (30 - width * 0) = 1073741824 := by simp
    rw [this]; exact ⟨hx1, hx2⟩
  | k + 1, hk => by
    rw [Nat.mul_succ] at hk ⊢
    obtain ⟨i1, i2⟩ := xs_small width hw1 h hh x hx1 hx2 k (by omega)
    obtain ⟨m, hm⟩ : ∃ m : Int, m = 2 ^ (30 - (width * k + width)) := ⟨_, rfl⟩
    have hpos : 0 < h := by rw [hh]; exact Int.pow_pos (by decide)
    have e : (2 : Int) ^ (30 - width * k) = 2 * h * m := by
      rw [hm, hh, ← Int.pow_succ', ← Int.pow_add]; congr 1; omega
    rw [e] at i1 i2
    rw [← hm]
    show -m ≤ (xsI h x k + h) / (2 * h) ∧ (xsI h x k + h) / (2 * h) ≤ m
    constructor
    · rw [Int.le_ediv_iff_mul_le (by omega), Int.neg_mul, Int.mul_comm m]; omega
    · have : (xsI h x k + h) / (2 * h) < m + 1 := by
        rw [Int.ediv_lt_iff_lt_mul (by omega), Int.add_mul, Int.mul_comm m]; omega
      omega
theorem digI_small {width : Int} (hw1 : 2 ≤ width) (hw2 : width ≤ 31) (h : Int) (hh : h = 2 ^ (width - 1).toNat) (x : Int) (hx1 : -1073741823 ≤ x) (hx2 : x ≤ 1073741823) (k : Nat) (hk : k < (partsI width).toNat) :
    -h ≤ digI h (partsI width).toNat x k ∧ digI h (partsI width).toNat x k ≤ h := by
  have hpos : 0 < h := by rw [hh]; exact Int.pow_pos (by decide)
  have hpb := parts_bound hw1 hw2
  obtain ⟨c1, c2⟩ := partsI_ceil hw1 hw2
  unfold digI
  split
  · have b := Int.emod_nonneg (xsI h x k + h) (show 2 * h ≠ 0 by omega)
    have c := Int.emod_lt_of_pos (xsI h x k + h) (show 0 < 2 * h by omega)
    omega
  · have hk1 : k = (partsI width).toNat - 1 := by omega
    obtain ⟨W, hW⟩ : ∃ W : Nat, width = (W : Int) := ⟨width.toNat, by omega⟩
    have hk2 : partsI width - 1 = (k : Int) := by omega
    have hk3 : partsI width = (k : Int) + 1 := by omega
    have e1 : width * (partsI width - 1) = ((W * k : Nat) : Int) := by rw [hk2, hW]; push_cast; rfl
    have e2 : width * partsI width = ((W * k + W : Nat) : Int) := by rw [hk3, hW, Int.mul_add]; push_cast; omega
    rw [e1] at c1
    rw [e2] at c2
    have hs := xs_small W (by omega) h (by rw [hh]; congr 1; omega) x (by omega) (by omega) k (by omega)
    have hle : (2 : Int) ^ (30 - W * k) ≤ h := by
      rw [hh]
      have := Nat.pow_le_pow_right (show 0 < 2 by decide) (show 30 - W * k ≤ (width - 1).toNat by omega)
      have e : ((2 ^ (30 - W * k) : Nat) : Int) ≤ ((2 ^ (width - 1).toNat : Nat) : Int) := Int.ofNat_le.2 this
      simpa using e
    omega
theorem chain_odd {N : Int} {chain : List Nat} {sp : Nat} (hv : validB N chain sp = true) : ∀ q ∈ chain, q % 2 = 1 := by
  intro q hq
  obtain ⟨i, hi, rfl⟩ := List.getElem_of_mem hq
  unfold validB at hv
  simp only [Bool.and_eq_true] at hv
  have := okTo_get hv.2 i _ hi (List.getElem?_eq_getElem hi)
  unfold modB at this
  simp only [Bool.and_eq_true, decide_eq_true_eq] at this
  exact this.2
theorem cent_small {q r : Nat} (h1 : q % 2 = 1) (hr : r < q) : -(((q : Int) - 1) / 2) ≤ cent q r ∧ cent q r ≤ ((q : Int) - 1) / 2 := by
  unfold cent
  split <;> omega
theorem digRows_get {N : Int} {chain : List Nat} {width level : Int} {rows : List (List Nat)} {r : List Int} {d : Int} (hr : r ∈ digRows N chain width level rows) (hd : d ∈ r) (hw1 : 2 ≤ width) (hw2 : width ≤ 31) :
    ∃ i k c, i < level.toNat ∧ k < (partsI width).toNat ∧ c < N.toNat ∧ d = digI (2 ^ (width - 1).toNat) (partsI width).toNat (cent (chain.getD i 0) ((rows.getD i []).getD c 0)) k := by
  have hpb := parts_bound hw1 hw2
  unfold digRows digL at hr
  simp only [List.mem_map, List.mem_range] at hr
  obtain ⟨s, hs, rfl⟩ := hr
  simp only [List.mem_map, List.mem_range] at hd
  obtain ⟨c, hc, rfl⟩ := hd
  exact ⟨s / (partsI width).toNat, s % (partsI width).toNat, c, (Nat.div_lt_iff_lt_mul (by omega)).2 hs, Nat.mod_lt _ (by omega), hc, rfl⟩
theorem digRows_rowlen {N : Int} {chain : List Nat} {width level : Int} {rows : List (List Nat)} {r : List Int} (hr : r ∈ digRows N chain width level rows) : r.length = N.toNat := by
  unfold digRows digL at hr
  simp only [List.mem_map, List.mem_range] at hr
  obtain ⟨s, hs, rfl⟩ := hr
  simp
theorem RowsOk.entry {n lv : Nat} {chain : List Nat} {rows : List (List Nat)} (h : RowsOk n chain rows) (hl : rows.length = lv) (i c : Nat) (hi : i < lv) (hc : c < n) : chain.getD i 0 ∈ chain ∧ (rows.getD i []).getD c 0 < chain.getD i 0 ∧ (rows.getD i []).length = n := by
  obtain ⟨r, hr⟩ : ∃ r, rows[i]? = some r := ⟨rows[i]'(by omega), List.getElem?_eq_getElem _⟩
  obtain ⟨k1, q, hq, k2⟩ := h i r hr
  simp only [List.getD_eq_getElem?_getD, hq, hr, Option.getD_some]
  refine ⟨List.mem_of_getElem? hq, ?_, k1⟩
  obtain ⟨y, hy⟩ : ∃ y, r[c]? = some y := ⟨r[c]'(by omega), List.getElem?_eq_getElem _⟩
  rw [hy]
  exact k2 y (List.mem_of_getElem? hy)
theorem digRows_bound {N : Int} {chain : List Nat} {sp : Nat} {width level : Int} {special : Bool} {rows : List (List Nat)} (h : digB N chain sp width level special rows = true) :
    ∀ r ∈ digRows N chain width level rows, ∀ d ∈ r, -boundI chain width ≤ d ∧ d ≤ boundI chain width := by
  intro r hr d hd
  obtain ⟨-, hw1, hw2, hm, n, lv, rfl, rfl, i1, i2, i3, i4, i5, i6⟩ := digB_parts h
  obtain ⟨i, k, c, h1, h2, h3, rfl⟩ := digRows_get hr hd hw1 hw2
  simp only [Int.toNat_natCast] at h1 h3
  obtain ⟨e1, e2, -⟩ := i6.entry i5 i c h1 h3
  have hv := (madeB_parts hm).2.2.1
  have hge := chain_ge hv _ e1
  have hc := cent_small (chain_odd hv _ e1) e2
  have hmx := maxL_ge chain _ e1
  unfold boundI
  by_cases h31 : width < 31
  · rw [if_pos h31]
    exact digI_small hw1 hw2 _ rfl _ (by omega) (by omega) k h2
  · rw [if_neg h31]
    obtain rfl : width = 31 := by omega
    have hp1 : (partsI 31).toNat = 1 := by decide
    rw [hp1] at h2 ⊢
    obtain rfl : k = 0 := by omega
    unfold digI
    rw [if_neg (by omega)]
    show -_ ≤ cent _ _ ∧ cent _ _ ≤ _
    omega
theorem digAt_dig {n lv P : Nat} {h : Int} {chain : List Nat} {rows : List (List Nat)} (i j k : Nat) (hi : i < lv) (hj : j < n) (hk : k < P) :
    digAt (digL h P n chain rows (lv * P)) P i j k = digI h P (cent (chain.getD i 0) ((rows.getD i []).getD j 0)) k := by
  have hlt : i * P + k < lv * P := by
    have : (i + 1) * P ≤ lv * P := Nat.mul_le_mul_right _ hi
    rw [Nat.succ_mul] at this; omega
  unfold digAt digL
  simp only [List.getD_eq_getElem?_getD, List.getElem?_map, List.getElem?_range hlt, Option.map_some, Option.getD_some, List.getElem?_range hj]
  rw [digT_at _ _ _ _ _ _ _ hk]
  simp only [List.getD_eq_getElem?_getD]
theorem join_back {N : Int} {chain : List Nat} {sp : Nat} {width level : Int} {special : Bool} {rows : List (List Nat)} (h : digB N chain sp width level special rows = true) :
    joinB N chain sp width level (digRows N chain width level rows) = true ∧ joinRows chain (digRows N chain width level rows) N.toNat (partsI width).toNat width level.toNat = rows := by
  obtain ⟨-, hw1, hw2, hm, n, lv, rfl, rfl, i1, i2, i3, i4, i5, i6⟩ := digB_parts h
  have hpb := parts_bound hw1 hw2
  obtain ⟨P, hP⟩ : ∃ P, P = (partsI width).toNat := ⟨_, rfl⟩
  have hPI : partsI width = (P : Int) := by omega
  refine ⟨?_, ?_⟩
  · unfold joinB levB
    have hall : (digRows (n : Int) chain width (lv : Int) rows).all (fun d => decide ((d.length : Int) = (n : Int))) = true := by
      rw [List.all_eq_true]
      intro d hd
      rw [digRows_rowlen hd]; simp
    rw [hm, hall, digRows_length, ← hP, hPI]
    simp; omega
  · unfold digRows
    rw [← hP]
    simp only [Int.toNat_natCast]
    refine List.ext_getElem? fun i => ?_
    by_cases hi : i < lv
    · obtain ⟨r, hr⟩ : ∃ r, rows[i]? = some r := ⟨rows[i]'(by omega), List.getElem?_eq_getElem _⟩
      rw [hr]
      unfold joinRows
      rw [List.getElem?_map, List.getElem?_range hi, Option.map_some]
      congr 1
      unfold joinRow
      have hrn := (i6 i r hr).1
      refine List.ext_getElem? fun j => ?_
      by_cases hj : j < n
      · obtain ⟨e1, e2, -⟩ := i6.entry i5 i j hi hj
        rw [List.getElem?_map, List.getElem?_range hj, Option.map_some]
        rw [joinEntry_back _ _ e2 width hw1 hw2 _ rfl P (by omega) _ (fun k hk => digAt_dig i j k hi hj hk)]
        have : (rows.getD i []).getD j 0 = r[j]'(by omega) := by
          rw [List.getD_eq_getElem?_getD, List.getD_eq_getElem?_getD, hr, Option.getD_some, List.getElem?_eq_getElem (by omega), Option.getD_some]
        rw [this, List.getElem?_eq_getElem (by omega)]
      · rw [List.getElem?_eq_none (by simp; omega), List.getElem?_eq_none (by omega)]
    · rw [List.getElem?_eq_none (by rw [joinRows_length]; omega), List.getElem?_eq_none (by omega)]
end Go.Proofs.Ytpcpgmgpkegjlaa
