/- Plain: what the reference puts together is what the program does. -/
import Derived.Test.YtpcpgmgpkegjlaaGH3
import Derived.Test.YtpcpgmgpkegjlaaGE6
namespace Go.Proofs.Ytpcpgmgpkegjlaa
open Go.RowKit Go.Shelf Go.BigFrame
def powSum (w : Nat) (f : Nat → Int) : Nat → Int
  | 0 => 0
  | k + 1 => powSum w f k + f k * 2 ^ (w * k)
def horner (w P : Nat) (f : Nat → Int) : Nat → Int
  | 0 => 0
  | c + 1 => horner w P f c * 2 ^ w + f (P - 1 - c)
theorem horner_sum (w P : Nat) (f : Nat → Int) : ∀ c, c ≤ P → powSum w f P = powSum w f (P - c) + horner w P f c * 2 ^ (w * (P - c)) := by
  intro c
  induction c with
  | zero => intro _; simp [horner]
  | succ c ih =>
    intro hc
    rw [ih (by omega)]
    obtain ⟨d, hd⟩ : ∃ d, P - c = d + 1 := ⟨P - c - 1, by omega⟩
    rw [hd, show P - (c + 1) = d by omega]
    show powSum w f d + f d * 2 ^ (w * d) + _ = _ + (horner w P f c * 2 ^ w + f (P - 1 - c)) * 2 ^ (w * d)
    rw [show P - 1 - c = d by omega, Nat.mul_succ, Int.pow_add, Int.add_mul, Int.mul_assoc (horner w P f c), Int.mul_comm (2 ^ w : Int) (2 ^ (w * d))]
    omega
theorem horner_all (w P : Nat) (f : Nat → Int) : horner w P f P = powSum w f P := by
  have := horner_sum w P f P (Nat.le_refl _)
  rw [Nat.sub_self, Nat.mul_zero] at this
  simp [powSum] at this
  exact this.symm
theorem joinSum_horner (q : Nat) (width : Int) (P : Nat) (f : Nat → Int) : ∀ c, ∃ t, joinSum q width P f c = horner width.toNat P f c + (q : Int) * t := by
  intro c
  induction c with
  | zero => exact ⟨0, by simp [joinSum, horner]⟩
  | succ c ih =>
    obtain ⟨t, ht⟩ := ih
    obtain ⟨u, hu⟩ := joinStep_mod q width (joinSum q width P f c) (f (P - 1 - c))
    refine ⟨t * 2 ^ width.toNat + u, ?_⟩
    show joinStep q width (joinSum q width P f c) (f (P - 1 - c)) = horner width.toNat P f c * 2 ^ width.toNat + f (P - 1 - c) + _
    rw [hu, ht, Int.add_mul, Int.mul_add, Int.mul_assoc (q : Int) t]
    omega
theorem joinEntry_sum (q : Nat) (hq : 0 < q) (width : Int) (P : Nat) (f : Nat → Int) : joinEntry q width P f = resN q (powSum width.toNat f P) := by
  obtain ⟨t, ht⟩ := joinSum_horner q width P f P
  rw [horner_all] at ht
  have hrange := joinSum_range q (by omega) width P f P
  unfold joinEntry
  rw [Int.tmod_eq_emod_of_nonneg (by omega), Int.add_emod_right]
  show resN q (joinSum q width P f P) = _
  exact resN_eq q hq _ _ t ht
/-! ### The products with a weight -/
theorem accI_const (n : Nat) (a b : List Nat) (c : Nat) (h0 : a.getD 0 0 = c) (h1 : ∀ i, 1 ≤ i → a.getD i 0 = 0) (k : Nat) : ∀ i, accI n a b (i + 1) k = (c : Int) * (b.getD k 0 : Int) := by
  intro i
  induction i with
  | zero =>
    show (0 : Int) + termI n a b 0 k = _
    unfold termI
    rw [if_pos (Nat.zero_le _), h0, Nat.sub_zero]; omega
  | succ i ih =>
    show accI n a b (i + 1) k + termI n a b (i + 1) k = _
    rw [ih]
    have : termI n a b (i + 1) k = 0 := by
      unfold termI
      rw [h1 (i + 1) (by omega)]
      split <;> simp
    omega
theorem weightRow_get (n q t : Nat) (i : Nat) (hi : 1 ≤ i) (here : Bool) : (weightRow n q t here).getD i 0 = 0 := by
  obtain ⟨j, rfl⟩ : ∃ j, i = j + 1 := ⟨i - 1, by omega⟩
  unfold weightRow
  cases here
  · simp only [Bool.false_eq_true, if_false, List.getD_eq_getElem?_getD, List.getElem?_replicate]
    split <;> rfl
  · simp only [if_true, List.getD_eq_getElem?_getD, List.getElem?_cons_succ, List.getElem?_replicate]
    split <;> rfl
theorem weightRow_zero (n q t : Nat) (here : Bool) : (weightRow n q t here).getD 0 0 = if here then 2 ^ t % q else 0 := by
  unfold weightRow
  cases here
  · simp only [Bool.false_eq_true, if_false, List.getD_eq_getElem?_getD, List.getElem?_replicate]
    split <;> rfl
  · simp
theorem prodRow_weight (n q t : Nat) (hn : 1 ≤ n) (here : Bool) (b : List Nat) : prodRow n q (weightRow n q t here) b = (List.range n).map fun k => resN q (((if here then 2 ^ t % q else 0 : Nat) : Int) * (b.getD k 0 : Int)) := by
  unfold prodRow
  refine List.map_congr_left fun k _ => ?_
  obtain ⟨m, rfl⟩ : ∃ m, n = m + 1 := ⟨n - 1, by omega⟩
  rw [accI_const (m + 1) _ b _ (weightRow_zero _ _ _ _) (fun i hi => weightRow_get _ _ _ i hi _) k m]
/-- What the sum has after c digits, at row r and place j. -/
def refAcc (w P : Nat) (ls : List (List Int)) (r j : Nat) : Nat → Int
  | 0 => 0
  | i + 1 => refAcc w P ls r j i + (if i / P = r then (ls.getD i []).getD j 0 * 2 ^ (w * (i % P)) else 0)
theorem refAcc_before (w P : Nat) (hP : 1 ≤ P) (ls : List (List Int)) (r j : Nat) : ∀ c, c ≤ r * P → refAcc w P ls r j c = 0 := by
  intro c
  induction c with
  | zero => intro _; rfl
  | succ c ih =>
    intro hc
    show refAcc w P ls r j c + _ = 0
    rw [ih (by omega), if_neg (by
      have : c / P < r := (Nat.div_lt_iff_lt_mul (by omega)).2 (by omega)
      omega)]
    rfl
theorem refAcc_in (w P : Nat) (hP : 1 ≤ P) (ls : List (List Int)) (r j : Nat) : ∀ k, k ≤ P → refAcc w P ls r j (r * P + k) = powSum w (digAt ls P r j) k := by
  intro k
  induction k with
  | zero => intro _; rw [Nat.add_zero, refAcc_before w P hP ls r j _ (Nat.le_refl _)]; rfl
  | succ k ih =>
    intro hk
    have d1 : (r * P + k) / P = r := by rw [Nat.mul_comm, Nat.mul_add_div (by omega), Nat.div_eq_of_lt (by omega)]; omega
    have d2 : (r * P + k) % P = k := by rw [Nat.mul_comm, Nat.mul_add_mod, Nat.mod_eq_of_lt (by omega)]
    show refAcc w P ls r j (r * P + k) + (if (r * P + k) / P = r then (ls.getD (r * P + k) []).getD j 0 * 2 ^ (w * ((r * P + k) % P)) else 0) = powSum w (digAt ls P r j) k + digAt ls P r j k * 2 ^ (w * k)
    rw [ih (by omega), if_pos d1, d2]
    rfl
theorem refAcc_after (w P : Nat) (hP : 1 ≤ P) (ls : List (List Int)) (r j : Nat) : ∀ c, refAcc w P ls r j (r * P + P + c) = powSum w (digAt ls P r j) P := by
  intro c
  induction c with
  | zero => exact refAcc_in w P hP ls r j P (Nat.le_refl _)
  | succ c ih =>
    show refAcc w P ls r j (r * P + P + c) + (if (r * P + P + c) / P = r then (ls.getD (r * P + P + c) []).getD j 0 * 2 ^ (w * ((r * P + P + c) % P)) else 0) = _
    rw [ih, if_neg (by
      have : r + 1 ≤ (r * P + P + c) / P := (Nat.le_div_iff_mul_le (by omega)).2 (by rw [Nat.succ_mul]; omega)
      omega)]
    omega
/-- The rows of the sum after c digits. -/
def accRows (w P n : Nat) (ml : List Nat) (ls : List (List Int)) (lv c : Nat) : List (List Nat) := (List.range lv).map fun r => (List.range n).map fun j => resN (ml.getD r 0) (refAcc w P ls r j c)
theorem getD_map_range {α : Type} (f : Nat → α) (n i : Nat) (d : α) (h : i < n) : ((List.range n).map f).getD i d = f i := by
  simp [List.getD_eq_getElem?_getD, h]
/-- One digit more. -/
theorem accRows_step (w P n lv : Nat) (hn : 1 ≤ n) (ml chain : List Nat) (hml : ∀ r, r < lv → ml.getD r 0 = chain.getD r 0) (hlv : lv ≤ chain.length) (hq : ∀ r, r < lv → 3 ≤ ml.getD r 0) (ls : List (List Int)) (c : Nat) (l : List Int) (hl : ls[c]? = some l) (hln : l.length = n) (W I : List (List Nat)) (hW : W = (weightRows chain n (w * (c % P)) (c / P) chain.length).take lv) (hI : I = (List.range lv).map fun r => l.map (resN (ml.getD r 0))) :
    zipRows (sumRow 1 n) ml (accRows w P n ml ls lv c) (zipRows (prodRow n) ml W I lv) lv = accRows w P n ml ls lv (c + 1) := by
  unfold zipRows accRows
  refine List.map_congr_left fun r hr => ?_
  rw [List.mem_range] at hr
  rw [getD_map_range _ _ _ _ hr, getD_map_range _ _ _ _ hr]
  have hWr : W.getD r [] = weightRow n (ml.getD r 0) (w * (c % P)) (r == c / P) := by
    rw [hW, List.getD_eq_getElem?_getD, List.getElem?_take, if_pos hr]
    unfold weightRows
    rw [List.getElem?_map, List.getElem?_range (by omega), Option.map_some, Option.getD_some, hml r hr]
  have hIr : I.getD r [] = l.map (resN (ml.getD r 0)) := by rw [hI, getD_map_range _ _ _ _ hr]
  rw [hWr, hIr]
  generalize hqd : ml.getD r 0 = q
  have hq3 : 3 ≤ q := by rw [← hqd]; exact hq r hr
  rw [prodRow_weight n q _ hn]
  unfold sumRow
  refine List.map_congr_left fun j hj => ?_
  rw [List.mem_range] at hj
  rw [getD_map_range _ _ _ _ hj, getD_map_range _ _ _ _ hj]
  obtain ⟨x, hx⟩ : ∃ x, l[j]? = some x := ⟨l[j]'(by omega), List.getElem?_eq_getElem _⟩
  have hb : (l.map (resN q)).getD j 0 = resN q x := by simp [List.getD_eq_getElem?_getD, hx]
  have hls : (ls.getD c []).getD j 0 = x := by simp [List.getD_eq_getElem?_getD, hl, hx]
  have h1 : resN q 1 = 1 := by
    have := resN_nat q 1 (by omega); simpa using this
  rw [hb, h1, Nat.mul_one]
  show _ = resN q (refAcc w P ls r j c + _)
  rw [hls]
  by_cases hd : c / P = r
  · rw [if_pos hd]
    have hbe : (r == c / P) = true := by simp [hd]
    rw [hbe, if_pos rfl]
    refine resN_add q (by omega) _ _ _ ?_
    obtain ⟨s, hs⟩ := resN_spec q (by omega) (((2 ^ (w * (c % P)) % q : Nat) : Int) * (resN q x : Int))
    obtain ⟨u, hu⟩ := resN_spec q (by omega) x
    have hm : ∃ v : Int, (2 ^ (w * (c % P)) : Int) = ((2 ^ (w * (c % P)) % q : Nat) : Int) + (q : Int) * v := by
      refine ⟨((2 ^ (w * (c % P)) / q : Nat) : Int), ?_⟩
      have h := Nat.div_add_mod (2 ^ (w * (c % P))) q
      have h2 : ((2 ^ (w * (c % P)) : Nat) : Int) = (q : Int) * ((2 ^ (w * (c % P)) / q : Nat) : Int) + ((2 ^ (w * (c % P)) % q : Nat) : Int) := by
        rw [← Int.natCast_mul, ← Int.natCast_add, h]
      have h3 : (2 : Int) ^ (w * (c % P)) = ((2 ^ (w * (c % P)) : Nat) : Int) := by simp
      rw [h3, h2]
      exact Int.add_comm _ _
    obtain ⟨v, hv⟩ := hm
    generalize (2 ^ (w * (c % P)) : Int) = e at hv ⊢
    generalize ((2 ^ (w * (c % P)) % q : Nat) : Int) = z at hs hv ⊢
    generalize (resN q x : Int) = y at hs hu
    generalize (resN q (z * y) : Int) = o at hs ⊢
    refine ⟨-s - y * v - u * z - (q : Int) * (u * v), ?_⟩
    rw [hu, hv]
    have e1 : (y + (q : Int) * u) * (z + (q : Int) * v) = y * z + y * ((q : Int) * v) + ((q : Int) * u * z + (q : Int) * u * ((q : Int) * v)) := by rw [Int.add_mul, Int.mul_add, Int.mul_add]
    have e2 : (q : Int) * (-s - y * v - u * z - (q : Int) * (u * v)) = -((q : Int) * s) - (q : Int) * (y * v) - (q : Int) * (u * z) - (q : Int) * ((q : Int) * (u * v)) := by
      rw [Int.mul_sub, Int.mul_sub, Int.mul_sub, Int.mul_neg]
    have e3 : y * ((q : Int) * v) = (q : Int) * (y * v) := by rw [← Int.mul_assoc, Int.mul_comm y, Int.mul_assoc]
    have e4 : (q : Int) * u * z = (q : Int) * (u * z) := Int.mul_assoc _ _ _
    have e5 : (q : Int) * u * ((q : Int) * v) = (q : Int) * ((q : Int) * (u * v)) := by
      rw [Int.mul_assoc, ← Int.mul_assoc u, Int.mul_comm u, Int.mul_assoc]
    have e6 : z * y = y * z := Int.mul_comm _ _
    rw [e1, e2, e3, e4, e5]
    omega
  · rw [if_neg hd]
    have hbe : (r == c / P) = false := by rw [beq_eq_false_iff_ne]; omega
    rw [hbe]
    simp only [Bool.false_eq_true, if_false]
    have h0 : resN q (((0 : Nat) : Int) * (resN q x : Int)) = 0 := by simp [resN]
    rw [h0, Nat.add_zero, Int.add_zero]
    exact Nat.mod_eq_of_lt (resN_lt q _ (by omega))
theorem accRows_zero (w P n lv : Nat) (ml : List Nat) (ls : List (List Int)) : accRows w P n ml ls lv 0 = (List.range lv).map fun _ => List.replicate n 0 := by
  unfold accRows
  refine List.map_congr_left fun r _ => ?_
  refine List.ext_getElem (by simp) fun j h1 h2 => ?_
  simp [refAcc, resN]
theorem accRows_all (w P n lv : Nat) (hP : 1 ≤ P) (width : Int) (hw : width.toNat = w) (ml chain : List Nat) (hml : ∀ r, r < lv → ml.getD r 0 = chain.getD r 0) (hq : ∀ r, r < lv → 3 ≤ ml.getD r 0) (ls : List (List Int)) : accRows w P n ml ls lv (lv * P) = joinRows chain ls n P width lv := by
  unfold accRows joinRows joinRow
  refine List.map_congr_left fun r hr => List.map_congr_left fun j _ => ?_
  rw [List.mem_range] at hr
  obtain ⟨e, he⟩ : ∃ e, lv * P = r * P + P + e := ⟨lv * P - (r * P + P), by
    have : (r + 1) * P ≤ lv * P := Nat.mul_le_mul_right _ hr
    rw [Nat.succ_mul] at this; omega⟩
  have h3 := hq r hr
  rw [joinEntry_sum _ (by rw [← hml r hr]; omega), he, refAcc_after w P hP, hw, hml r hr]
end Go.Proofs.Ytpcpgmgpkegjlaa
