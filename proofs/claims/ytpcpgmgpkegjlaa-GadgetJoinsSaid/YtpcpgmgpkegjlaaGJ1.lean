/- Plain laws of Joins and Times. -/
import Derived.Test.YtpcpgmgpkegjlaaGH3
import Derived.Test.YtpcpgmgpkegjlaaGE6
import Derived.Test.YtpcpgmgpkegjlaaGH3b
/- Plain: what the reference puts together is what the program does. -/
namespace Go.Proofs.Ytpcpgmgpkegjlaa
open Go.RowKit Go.Shelf Go.BigFrame
def powSum (w : Nat) (f : Nat → Int) : Nat → Int
  | 0 => 0
  | k + 1 => powSum w f k + f k * 2 ^ (w * k)
def horner (w P : Nat) (f : Nat → Int) : Nat → Int
  | 0 => 0
  | c + 1 => horner w P f c * 2 ^ w + f (P - 1 - c)
theorem horner_sum (w P : Nat) (f : Nat → Int) : ∀ c, c ≤ P → powSum w f P = powSum w f (P - c) + horner w P f c * 2 ^ (w * (P - c)) := by
  intro c
  induction c with
  | zero => intro _; simp [horner]
  | succ c ih =>
    intro hc
    rw [ih (by omega)]
    obtain ⟨d, hd⟩ : ∃ d, P - c = d + 1 := ⟨P - c - 1, by omega⟩
    rw [hd, show P - (c + 1) = d by omega]
    show powSum w f d + f d * 2 ^ (w * d) + _ = _ + (horner w P f c * 2 ^ w + f (P - 1 - c)) * 2 ^ (w * d)
    rw [show P - 1 - c = d by omega, Nat.mul_succ, Int.pow_add, Int.add_mul, Int.mul_assoc (horner w P f c), Int.mul_comm (2 ^ w : Int) (2 ^ (w * d))]
    omega
theorem horner_all (w P : Nat) (f : Nat → Int) : horner w P f P = powSum w f P := by
  have := horner_sum w P f P (Nat.le_refl _)
  rw [Nat.sub_self, Nat.mul_zero] at this
  simp [powSum] at this
  exact this.symm
theorem joinSum_horner (q : Nat) (width : Int) (P : Nat) (f : Nat → Int) : ∀ c, ∃ t, joinSum q width P f c = horner width.toNat P f c + (q : Int) * t := by
  intro c
  induction c with
  | zero => exact ⟨0, by simp [joinSum, horner]⟩
  | succ c ih =>
    obtain ⟨t, ht⟩ := ih
    obtain ⟨u, hu⟩ := joinStep_mod q width (joinSum q width P f c) (f (P - 1 - c))
    refine ⟨t * 2 ^ width.toNat + u, ?_⟩
    show joinStep q width (joinSum q width P f c) (f (P - 1 - c)) = horner width.toNat P f c * 2 ^ width.toNat + f (P - 1 - c) + _
    rw [hu, ht, Int.add_mul, Int.mul_add, Int.mul_assoc (q : Int) t]
    omega
theorem joinEntry_sum (q : Nat) (hq : 0 < q) (width : Int) (P : Nat) (f : Nat → Int) : joinEntry q width P f = resN q (powSum width.toNat f P) := by
  obtain ⟨t, ht⟩ := joinSum_horner q width P f P
  rw [horner_all] at ht
  have hrange := joinSum_range q (by omega) width P f P
  unfold joinEntry
  rw [Int.tmod_eq_emod_of_nonneg (by omega), Int.add_emod_right]
  show resN q (joinSum q width P f P) = _
  exact resN_eq q hq _ _ t ht
/-! ### The products with a weight -/
theorem accI_const (n : Nat) (a b : List Nat) (c : Nat) (h0 : a.getD 0 0 = c) (h1 : ∀ i, 1 ≤ i → a.getD i 0 = 0) (k : Nat) : ∀ i, accI n a b (i + 1) k = (c : Int) * (b.getD k 0 : Int) := by
  intro i
  induction i with
  | zero =>
    show (0 : Int) + termI n a b 0 k = _
    unfold termI
    rw [if_pos (Nat.zero_le _), h0, Nat.sub_zero]; omega
  | succ i ih =>
    show accI n a b (i + 1) k + termI n a b (i + 1) k = _
    rw [ih]
    have : termI n a b (i + 1) k = 0 := by
      unfold termI
      rw [h1 (i + 1) (by omega)]
      split <;> simp
    omega
theorem weightRow_get (n q t : Nat) (i : Nat) (hi : 1 ≤ i) (here : Bool) : (weightRow n q t here).getD i 0 = 0 := by
  obtain ⟨j, rfl⟩ : ∃ j, i = j + 1 := ⟨i - 1, by omega⟩
  unfold weightRow
  cases here
  · simp only [Bool.false_eq_true, if_false, List.getD_eq_getElem?_getD, List.getElem?_replicate]
    split <;> rfl
  · simp only [if_true, List.getD_eq_getElem?_getD, List.getElem?_cons_succ, List.getElem?_replicate]
    split <;> rfl
theorem weightRow_zero (n q t : Nat) (here : Bool) : (weightRow n q t here).getD 0 0 = if here then 2 ^ t % q else 0 := by
  unfold weightRow
  cases here
  · simp only [Bool.false_eq_true, if_false, List.getD_eq_getElem?_getD, List.getElem?_replicate]
    split <;> rfl
  · simp
theorem prodRow_weight (n q t : Nat) (hn : 1 ≤ n) (here : Bool) (b : List Nat) : prodRow n q (weightRow n q t here) b = (List.range n).map fun k => resN q (((if here then 2 ^ t % q else 0 : Nat) : Int) * (b.getD k 0 : Int)) := by
  unfold prodRow
  refine List.map_congr_left fun k _ => ?_
  obtain ⟨m, rfl⟩ : ∃ m, n = m + 1 := ⟨n - 1, by omega⟩
  rw [accI_const (m + 1) _ b _ (weightRow_zero _ _ _ _) (fun i hi => weightRow_get _ _ _ i hi _) k m]
/-- What the sum has after c digits, at row r and place j. -/
def refAcc (w P : Nat) (ls : List (List Int)) (r j : Nat) : Nat → Int
  | 0 => 0
  | i + 1 => refAcc w P ls r j i + (if i / P = r then (ls.getD i []).getD j 0 * 2 ^ (w * (i % P)) else 0)
theorem refAcc_before (w P : Nat) (hP : 1 ≤ P) (ls : List (List Int)) (r j : Nat) : ∀ c, c ≤ r * P → refAcc w P ls r j c = 0 := by
  intro c
  induction c with
  | zero => intro _; rfl
  | succ c ih =>
    intro hc
    show refAcc w P ls r j c + _ = 0
    rw [ih (by omega), if_neg (by
      have : c / P < r := (Nat.div_lt_iff_lt_mul (by omega)).2 (by omega)
      omega)]
    rfl
theorem refAcc_in (w P : Nat) (hP : 1 ≤ P) (ls : List (List Int)) (r j : Nat) : ∀ k, k ≤ P → refAcc w P ls r j (r * P + k) = powSum w (digAt ls P r j) k := by
  intro k
  induction k with
  | zero => intro _; rw [Nat.add_zero, refAcc_before w P hP ls r j _ (Nat.le_refl _)]; rfl
  | succ k ih =>
    intro hk
    have d1 : (r * P + k) / P = r := by rw [Nat.mul_comm, Nat.mul_add_div (by omega), Nat.div_eq_of_lt (by omega)]; omega
    have d2 : (r * P + k) % P = k := by rw [Nat.mul_comm, Nat.mul_add_mod, Nat.mod_eq_of_lt (by omega)]
    show refAcc w P ls r j (r * P + k) + (if (r * P + k) / P = r then (ls.getD (r * P + k) []).getD j 0 * 2 ^ (w * ((r * P + k) % P)) else 0) = powSum w (digAt ls P r j) k + digAt ls P r j k * 2 ^ (w * k)
    rw [ih (by omega), if_pos d1, d2]
    rfl
theorem refAcc_after (w P : Nat) (hP : 1 ≤ P) (ls : List (List Int)) (r j : Nat) : ∀ c, refAcc w P ls r j (r * P + P + c) = powSum w (digAt ls P r j) P := by
  intro c
  induction c with
  | zero => exact refAcc_in w P hP ls r j P (Nat.le_refl _)
  | succ c ih =>
    show refAcc w P ls r j (r * P + P + c) + (if (r * P + P + c) / P = r then (ls.getD (r * P + P + c) []).getD j 0 * 2 ^ (w * ((r * P + P + c) % P)) else 0) = _
    rw [ih, if_neg (by
      have : r + 1 ≤ (r * P + P + c) / P := (Nat.le_div_iff_mul_le (by omega)).2 (by rw [Nat.succ_mul]; omega)
      omega)]
    omega
/-- The rows of the sum after c digits. -/
def accRows (w P n : Nat) (ml : List Nat) (ls : List (List Int)) (lv c : Nat) : List (List Nat) := (List.range lv).map fun r => (List.range n).map fun j => resN (ml.getD r 0) (refAcc w P ls r j c)
theorem getD_map_range {α : Type} (f : Nat → α) (n i : Nat) (d : α) (h : i < n) : ((List.range n).map f).getD i d = f i := by
  simp [List.getD_eq_getElem?_getD, h]
/-- One digit more. -/
theorem accRows_step (w P n lv : Nat) (hn : 1 ≤ n) (ml chain : List Nat) (hml : ∀ r, r < lv → ml.getD r 0 = chain.getD r 0) (hlv : lv ≤ chain.length) (hq : ∀ r, r < lv → 3 ≤ ml.getD r 0) (ls : List (List Int)) (c : Nat) (l : List Int) (hl : ls[c]? = some l) (hln : l.length = n) (W I : List (List Nat)) (hW : W = (weightRows chain n (w * (c % P)) (c / P) chain.length).take lv) (hI : I = (List.range lv).map fun r => l.map (resN (ml.getD r 0))) :
    zipRows (sumRow 1 n) ml (accRows w P n ml ls lv c) (zipRows (prodRow n) ml W I lv) lv = accRows w P n ml ls lv (c + 1) := by
  unfold zipRows accRows
  refine List.map_congr_left fun r hr => ?_
  rw [List.mem_range] at hr
  rw [getD_map_range _ _ _ _ hr, getD_map_range _ _ _ _ hr]
  have hWr : W.getD r [] = weightRow n (ml.getD r 0) (w * (c % P)) (r == c / P) := by
    rw [hW, List.getD_eq_getElem?_getD, List.getElem?_take, if_pos hr]
    unfold weightRows
    rw [List.getElem?_map, List.getElem?_range (by omega), Option.map_some, Option.getD_some, hml r hr]
  have hIr : I.getD r [] = l.map (resN (ml.getD r 0)) := by rw [hI, getD_map_range _ _ _ _ hr]
  rw [hWr, hIr]
  generalize hqd : ml.getD r 0 = q
  have hq3 : 3 ≤ q := by rw [← hqd]; exact hq r hr
  rw [prodRow_weight n q _ hn]
  unfold sumRow
  refine List.map_congr_left fun j hj => ?_
  rw [List.mem_range] at hj
  rw [getD_map_range _ _ _ _ hj, getD_map_range _ _ _ _ hj]
  obtain ⟨x, hx⟩ : ∃ x, l[j]? = some x := ⟨l[j]'(by omega), List.getElem?_eq_getElem _⟩
  have hb : (l.map (resN q)).getD j 0 = resN q x := by simp [List.getD_eq_getElem?_getD, hx]
  have hls : (ls.getD c []).getD j 0 = x := by simp [List.getD_eq_getElem?_getD, hl, hx]
  have h1 : resN q 1 = 1 := by
    have := resN_nat q 1 (by omega); simpa using this
  rw [hb, h1, Nat.mul_one]
  show _ = resN q (refAcc w P ls r j c + _)
  rw [hls]
  by_cases hd : c / P = r
  · rw [if_pos hd]
    have hbe : (r == c / P) = true := by simp [hd]
    rw [hbe, if_pos rfl]
    refine resN_add q (by omega) _ _ _ ?_
    obtain ⟨s, hs⟩ := resN_spec q (by omega) (((2 ^ (w * (c % P)) % q : Nat) : Int) * (resN q x : Int))
    obtain ⟨u, hu⟩ := resN_spec q (by omega) x
    have hm : ∃ v : Int, (2 ^ (w * (c % P)) : Int) = ((2 ^ (w * (c % P)) % q : Nat) : Int) + (q : Int) * v := by
      refine ⟨((2 ^ (w * (c % P)) / q : Nat) : Int), ?_⟩
      have h := Nat.div_add_mod (2 ^ (w * (c % P))) q
      have h2 : ((2 ^ (w * (c % P)) : Nat) : Int) = (q : Int) * ((2 ^ (w * (c % P)) / q : Nat) : Int) + ((2 ^ (w * (c % P)) % q : Nat) : Int) := by
        rw [← Int.natCast_mul, ← Int.natCast_add, h]
      have h3 : (2 : Int) ^ (w * (c % P)) = ((2 ^ (w * (c % P)) : Nat) : Int) := by simp
      rw [h3, h2]
      exact Int.add_comm _ _
    obtain ⟨v, hv⟩ := hm
    generalize (2 ^ (w * (c % P)) : Int) = e at hv ⊢
    generalize ((2 ^ (w * (c % P)) % q : Nat) : Int) = z at hs hv ⊢
    generalize (resN q x : Int) = y at hs hu
    generalize (resN q (z * y) : Int) = o at hs ⊢
    refine ⟨-s - y * v - u * z - (q : Int) * (u * v), ?_⟩
    rw [hu, hv]
    have e1 : (y + (q : Int) * u) * (z + (q : Int) * v) = y * z + y * ((q : Int) * v) + ((q : Int) * u * z + (q : Int) * u * ((q : Int) * v)) := by rw [Int.add_mul, Int.mul_add, Int.mul_add]
    have e2 : (q : Int) * (-s - y * v - u * z - (q : Int) * (u * v)) = -((q : Int) * s) - (q : Int) * (y * v) - (q : Int) * (u * z) - (q : Int) * ((q : Int) * (u * v)) := by
      rw [Int.mul_sub, Int.mul_sub, Int.mul_sub, Int.mul_neg]
    have e3 : y * ((q : Int) * v) = (q : Int) * (y * v) := by rw [← Int.mul_assoc, Int.mul_comm y, Int.mul_assoc]
    have e4 : (q : Int) * u * z = (q : Int) * (u * z) := Int.mul_assoc _ _ _
    have e5 : (q : Int) * u * ((q : Int) * v) = (q : Int) * ((q : Int) * (u * v)) := by
      rw [Int.mul_assoc, ← Int.mul_assoc u, Int.mul_comm u, Int.mul_assoc]
    have e6 : z * y = y * z := Int.mul_comm _ _
    rw [e1, e2, e3, e4, e5]
    omega
  · rw [if_neg hd]
    have hbe : (r == c / P) = false := by rw [beq_eq_false_iff_ne]; omega
    rw [hbe]
    simp only [Bool.false_eq_true, if_false]
    have h0 : resN q (((0 : Nat) : Int) * (resN q x : Int)) = 0 := by simp [resN]
    rw [h0, Nat.add_zero, Int.add_zero]
    exact Nat.mod_eq_of_lt (resN_lt q _ (by omega))
theorem accRows_zero (w P n lv : Nat) (ml : List Nat) (ls : List (List Int)) : accRows w P n ml ls lv 0 = (List.range lv).map fun _ => List.replicate n 0 := by
  unfold accRows
  refine List.map_congr_left fun r _ => ?_
  refine List.ext_getElem (by simp) fun j h1 h2 => ?_
  simp [refAcc, resN]
theorem accRows_all (w P n lv : Nat) (hP : 1 ≤ P) (width : Int) (hw : width.toNat = w) (ml chain : List Nat) (hml : ∀ r, r < lv → ml.getD r 0 = chain.getD r 0) (hq : ∀ r, r < lv → 3 ≤ ml.getD r 0) (ls : List (List Int)) : accRows w P n ml ls lv (lv * P) = joinRows chain ls n P width lv := by
  unfold accRows joinRows joinRow
  refine List.map_congr_left fun r hr => List.map_congr_left fun j _ => ?_
  rw [List.mem_range] at hr
  obtain ⟨e, he⟩ : ∃ e, lv * P = r * P + P + e := ⟨lv * P - (r * P + P), by
    have : (r + 1) * P ≤ lv * P := Nat.mul_le_mul_right _ hr
    rw [Nat.succ_mul] at this; omega⟩
  have h3 := hq r hr
  rw [joinEntry_sum _ (by rw [← hml r hr]; omega), he, refAcc_after w P hP, hw, hml r hr]
end Go.Proofs.Ytpcpgmgpkegjlaa

/- Plain: products modulo x^n + 1 commute; digits, times the weights, are the integer; what the law on products says. -/
namespace Go.Proofs.Ytpcpgmgpkegjlaa
open Go.RowKit Go.Shelf Go.BigFrame
def sumN (f : Nat → Int) : Nat → Int
  | 0 => 0
  | k + 1 => sumN f k + f k
theorem sumN_congr {f g : Nat → Int} : ∀ {n : Nat}, (∀ i, i < n → f i = g i) → sumN f n = sumN g n
  | 0, _ => rfl
  | n + 1, h => by
    show sumN f n + f n = sumN g n + g n
    rw [sumN_congr (fun i hi => h i (by omega)), h n (by omega)]
theorem sumN_add (f g : Nat → Int) : ∀ n, sumN (fun i => f i + g i) n = sumN f n + sumN g n
  | 0 => rfl
  | n + 1 => by
    show sumN _ n + (f n + g n) = sumN f n + f n + (sumN g n + g n)
    rw [sumN_add f g n]; omega
theorem sumN_mul (c : Int) (f : Nat → Int) : ∀ n, sumN (fun i => c * f i) n = c * sumN f n
  | 0 => by simp [sumN]
  | n + 1 => by
    show sumN _ n + c * f n = c * (sumN f n + f n)
    rw [sumN_mul c f n, Int.mul_add]
theorem sumN_zero : ∀ n, sumN (fun _ => 0) n = 0
  | 0 => rfl
  | n + 1 => by show sumN _ n + 0 = 0; rw [sumN_zero n]; rfl
theorem sumN_single (f : Nat → Int) (j : Nat) : ∀ n, (∀ i, i < n → i ≠ j → f i = 0) → sumN f n = if j < n then f j else 0
  | 0, _ => by simp [sumN]
  | n + 1, h => by
    show sumN f n + f n = _
    rw [sumN_single f j n (fun i hi hne => h i (by omega) hne)]
    by_cases e : n = j
    · subst e; simp
    · rw [h n (by omega) e]
      by_cases h1 : j < n
      · rw [if_pos h1, if_pos (by omega)]; omega
      · rw [if_neg h1, if_neg (by omega)]; rfl
theorem sumN_swap (F : Nat → Nat → Int) (m : Nat) : ∀ n, sumN (fun i => sumN (fun j => F i j) m) n = sumN (fun j => sumN (fun i => F i j) n) m
  | 0 => by show (0 : Int) = sumN (fun _ => 0) m; rw [sumN_zero]
  | n + 1 => by
    show sumN _ n + sumN (fun j => F n j) m = _
    rw [sumN_swap F m n, ← sumN_add]
    rfl
/-- The product, as a double sum. -/
def tI (n i j k : Nat) : Int := if i + j = k then 1 else if i + j = n + k then -1 else 0
theorem tI_symm (n i j k : Nat) : tI n i j k = tI n j i k := by unfold tI; rw [Nat.add_comm]
def nega (n : Nat) (f g : Nat → Int) (k : Nat) : Int := sumN (fun i => sumN (fun j => tI n i j k * (f i * g j)) n) n
theorem nega_comm (n : Nat) (f g : Nat → Int) (k : Nat) : nega n f g k = nega n g f k := by
  unfold nega
  rw [sumN_swap]
  refine sumN_congr fun i _ => sumN_congr fun j _ => ?_
  rw [tI_symm, Int.mul_comm (f j)]
theorem nega_congr {n : Nat} {f f' g g' : Nat → Int} (hf : ∀ i, i < n → f i = f' i) (hg : ∀ i, i < n → g i = g' i) (k : Nat) : nega n f g k = nega n f' g' k := by
  unfold nega
  exact sumN_congr fun i hi => sumN_congr fun j hj => by rw [hf i hi, hg j hj]
theorem nega_zero_left (n : Nat) (g : Nat → Int) (k : Nat) : nega n (fun _ => 0) g k = 0 := by
  unfold nega
  rw [sumN_congr (g := fun _ => 0) (fun i _ => by rw [sumN_congr (g := fun _ => 0) (fun j _ => by simp), sumN_zero]), sumN_zero]
theorem nega_add_right (n : Nat) (f g g' : Nat → Int) (k : Nat) : nega n f (fun j => g j + g' j) k = nega n f g k + nega n f g' k := by
  unfold nega
  rw [← sumN_add]
  refine sumN_congr fun i _ => ?_
  rw [← sumN_add]
  refine sumN_congr fun j _ => ?_
  rw [Int.mul_add, Int.mul_add]
theorem nega_mul_left (n : Nat) (c : Int) (f g : Nat → Int) (k : Nat) : nega n (fun i => c * f i) g k = c * nega n f g k := by
  unfold nega
  rw [← sumN_mul]
  refine sumN_congr fun i _ => ?_
  rw [← sumN_mul]
  refine sumN_congr fun j _ => ?_
  rw [Int.mul_assoc c, Int.mul_left_comm]
theorem nega_mul_right (n : Nat) (c : Int) (f g : Nat → Int) (k : Nat) : nega n f (fun j => c * g j) k = c * nega n f g k := by
  rw [nega_comm, nega_mul_left, nega_comm]
/-- What the walk of the product makes is this product. -/
theorem accI_nega (n : Nat) (a b : List Nat) (k : Nat) (hk : k < n) : accI n a b n k = nega n (fun i => (a.getD i 0 : Int)) (fun j => (b.getD j 0 : Int)) k := by
  have h : ∀ m, m ≤ n → accI n a b m k = sumN (fun i => sumN (fun j => tI n i j k * ((a.getD i 0 : Int) * (b.getD j 0 : Int))) n) m := by
    intro m
    induction m with
    | zero => intro _; rfl
    | succ m ih =>
      intro hm
      show accI n a b m k + termI n a b m k = sumN _ m + _
      rw [ih (by omega)]
      congr 1
      show termI n a b m k = sumN (fun j => tI n m j k * ((a.getD m 0 : Int) * (b.getD j 0 : Int))) n
      unfold termI
      by_cases h1 : m ≤ k
      · rw [if_pos h1, sumN_single _ (k - m) n (fun j hj hne => by unfold tI; rw [if_neg (by omega), if_neg (by omega)]; simp), if_pos (by omega)]
        unfold tI
        rw [if_pos (by omega)]; omega
      · rw [if_neg h1]
        by_cases hjn : n + k - m < n
        · rw [sumN_single _ (n + k - m) n (fun j hj hne => by unfold tI; rw [if_neg (by omega), if_neg (by omega)]; simp), if_pos hjn]
          unfold tI
          rw [if_neg (by omega), if_pos (by omega)]; omega
        · omega
  exact h n (Nat.le_refl _)
/-- Congruent factors. -/
theorem nega_mod (n q : Nat) (f f' g g' : Nat → Int) (hf : ∀ i, i < n → ∃ u, f i = f' i + (q : Int) * u) (hg : ∀ i, i < n → ∃ u, g i = g' i + (q : Int) * u) (k : Nat) : ∃ u, nega n f g k = nega n f' g' k + (q : Int) * u := by
  have h1 : ∃ F : Nat → Int, ∀ i, i < n → f i = f' i + (q : Int) * F i := ⟨fun i => if h : i < n then Classical.choose (hf i h) else 0, fun i hi => by
    have := Classical.choose_spec (hf i hi)
    simp only [hi, dif_pos]; exact this⟩
  have h2 : ∃ G : Nat → Int, ∀ i, i < n → g i = g' i + (q : Int) * G i := ⟨fun i => if h : i < n then Classical.choose (hg i h) else 0, fun i hi => by
    have := Classical.choose_spec (hg i hi)
    simp only [hi, dif_pos]; exact this⟩
  obtain ⟨F, hF⟩ := h1
  obtain ⟨G, hG⟩ := h2
  refine ⟨nega n F g k + nega n f' G k, ?_⟩
  rw [nega_congr hF (fun _ _ => rfl) k]
  have e1 : nega n (fun i => f' i + (q : Int) * F i) g k = nega n f' g k + (q : Int) * nega n F g k := by
    rw [nega_comm, nega_add_right, nega_comm n g, nega_comm n g, nega_mul_left]
  rw [e1, nega_congr (f := f') (f' := f') (fun _ _ => rfl) hG k, nega_add_right, nega_mul_right, Int.mul_add]
  omega
/-! ### The digits, times their weights -/
theorem dig_sum (wn : Nat) (h : Int) (hw : (2 : Int) ^ wn = 2 * h) (P : Nat) (hP : 1 ≤ P) (x : Int) : sumN (fun k => 2 ^ (wn * k) * digI h P x k) P = x := by
  have h1 : ∀ c, c ≤ P - 1 → sumN (fun k => 2 ^ (wn * k) * digI h P x k) c + 2 ^ (wn * c) * xsI h x c = x := by
    intro c
    induction c with
    | zero => intro _; simp [sumN, xsI]
    | succ c ih =>
      intro hc
      have := ih (by omega)
      show sumN _ c + 2 ^ (wn * c) * digI h P x c + _ = x
      have hx := xs_step h x c
      have hd : digI h P x c = (xsI h x c + h) % (2 * h) - h := by unfold digI; rw [if_pos (by omega)]
      have hp : (2 : Int) ^ (wn * (c + 1)) = 2 ^ (wn * c) * (2 * h) := by rw [Nat.mul_succ, Int.pow_add, hw]
      rw [hd, hp, Int.mul_assoc]
      rw [hx, Int.mul_add] at this
      omega
  obtain ⟨m, rfl⟩ : ∃ m, P = m + 1 := ⟨P - 1, by omega⟩
  have h2 := h1 m (by omega)
  have hd : digI h (m + 1) x m = xsI h x m := by unfold digI; rw [if_neg (by omega)]
  show sumN _ m + 2 ^ (wn * m) * digI h (m + 1) x m = x
  rw [hd]; exact h2
def gAcc (P : Nat) (F : Nat → Nat → Int) (r : Nat) : Nat → Int
  | 0 => 0
  | i + 1 => gAcc P F r i + (if i / P = r then F i (i % P) else 0)
theorem gAcc_before (P : Nat) (hP : 1 ≤ P) (F : Nat → Nat → Int) (r : Nat) : ∀ c, c ≤ r * P → gAcc P F r c = 0 := by
  intro c
  induction c with
  | zero => intro _; rfl
  | succ c ih =>
    intro hc
    show gAcc P F r c + _ = 0
    rw [ih (by omega), if_neg (by
      have : c / P < r := (Nat.div_lt_iff_lt_mul (by omega)).2 (by omega)
      omega)]
    rfl
theorem gAcc_in (P : Nat) (hP : 1 ≤ P) (F : Nat → Nat → Int) (r : Nat) : ∀ k, k ≤ P → gAcc P F r (r * P + k) = sumN (fun k => F (r * P + k) k) k := by
  intro k
  induction k with
  | zero => intro _; rw [Nat.add_zero, gAcc_before P hP F r _ (Nat.le_refl _)]; rfl
  | succ k ih =>
    intro hk
    have d1 : (r * P + k) / P = r := by rw [Nat.mul_comm, Nat.mul_add_div (by omega), Nat.div_eq_of_lt (by omega)]; omega
    have d2 : (r * P + k) % P = k := by rw [Nat.mul_comm, Nat.mul_add_mod, Nat.mod_eq_of_lt (by omega)]
    show gAcc P F r (r * P + k) + (if (r * P + k) / P = r then F (r * P + k) ((r * P + k) % P) else 0) = sumN _ k + F (r * P + k) k
    rw [ih (by omega), if_pos d1, d2]
theorem gAcc_after (P : Nat) (hP : 1 ≤ P) (F : Nat → Nat → Int) (r : Nat) : ∀ c, gAcc P F r (r * P + P + c) = sumN (fun k => F (r * P + k) k) P := by
  intro c
  induction c with
  | zero => exact gAcc_in P hP F r P (Nat.le_refl _)
  | succ c ih =>
    show gAcc P F r (r * P + P + c) + (if (r * P + P + c) / P = r then F (r * P + P + c) ((r * P + P + c) % P) else 0) = _
    rw [ih, if_neg (by
      have : r + 1 ≤ (r * P + P + c) / P := (Nat.le_div_iff_mul_le (by omega)).2 (by rw [Nat.succ_mul]; omega)
      omega)]
    omega
/-- What the sum has after c digits, at row r and place k: the factor's row is b, the digits' lists are ls. -/
def timesF (w n : Nat) (b : List Nat) (ls : List (List Int)) (k : Nat) (i m : Nat) : Int := nega n (fun j => 2 ^ (w * m) * (b.getD j 0 : Int)) (fun j => (ls.getD i []).getD j 0) k
def timesRows (w P n : Nat) (ml : List Nat) (ys : List (List Nat)) (ls : List (List Int)) (lv c : Nat) : List (List Nat) :=
  (List.range lv).map fun r => (List.range n).map fun k => resN (ml.getD r 0) (gAcc P (timesF w n (ys.getD r []) ls k) r c)
theorem timesRows_zero (w P n lv : Nat) (ml : List Nat) (ys : List (List Nat)) (ls : List (List Int)) : timesRows w P n ml ys ls lv 0 = (List.range lv).map fun _ => List.replicate n 0 := by
  unfold timesRows
  refine List.map_congr_left fun r _ => ?_
  refine List.ext_getElem (by simp) fun j h1 h2 => ?_
  simp [gAcc, resN]
theorem getD_map_resN (q : Nat) (l : List Int) (j : Nat) (hj : j < l.length) : (l.map (resN q)).getD j 0 = resN q (l.getD j 0) := by
  simp [List.getD_eq_getElem?_getD, hj]
theorem resN_back (q : Nat) (hq : 0 < q) (x : Int) : ∃ u, (resN q x : Int) = x + (q : Int) * u := by
  obtain ⟨t, ht⟩ := resN_spec q hq x
  exact ⟨-t, by rw [Int.mul_neg]; omega⟩
/-- One digit more. -/
theorem timesRows_step (w P n lv : Nat) (hn : 1 ≤ n) (ml chain : List Nat) (hml : ∀ r, r < lv → ml.getD r 0 = chain.getD r 0) (hlv : lv ≤ chain.length) (hq : ∀ r, r < lv → 3 ≤ ml.getD r 0) (ys : List (List Nat)) (ls : List (List Int)) (c : Nat) (l : List Int) (hl : ls[c]? = some l) (hln : l.length = n)
    (K I : List (List Nat)) (hK : K = (zipRows (prodRow n) chain (weightRows chain n (w * (c % P)) (c / P) chain.length) ys chain.length).take lv) (hI : I = (List.range lv).map fun r => l.map (resN (ml.getD r 0))) :
    zipRows (sumRow 1 n) ml (timesRows w P n ml ys ls lv c) (zipRows (prodRow n) ml K I lv) lv = timesRows w P n ml ys ls lv (c + 1) := by
  unfold timesRows
  unfold zipRows at *
  refine List.map_congr_left fun r hr => ?_
  rw [List.mem_range] at hr
  rw [getD_map_range _ _ _ _ hr, getD_map_range _ _ _ _ hr]
  have hKr : K.getD r [] = prodRow n (ml.getD r 0) (weightRow n (ml.getD r 0) (w * (c % P)) (r == c / P)) (ys.getD r []) := by
    rw [hK, List.getD_eq_getElem?_getD, List.getElem?_take, if_pos hr, List.getElem?_map, List.getElem?_range (by omega), Option.map_some, Option.getD_some, hml r hr]
    congr 1
    unfold weightRows
    rw [getD_map_range _ _ _ _ (by omega)]
  have hIr : I.getD r [] = l.map (resN (ml.getD r 0)) := by rw [hI, getD_map_range _ _ _ _ hr]
  rw [hKr, hIr]
  generalize hqd : ml.getD r 0 = q
  have hq3 : 3 ≤ q := by rw [← hqd]; exact hq r hr
  rw [prodRow_weight n q _ hn]
  generalize ys.getD r [] = b
  have h1 : resN q 1 = 1 := by
    have := resN_nat q 1 (by omega); simpa using this
  unfold sumRow
  refine List.map_congr_left fun k hk => ?_
  rw [List.mem_range] at hk
  rw [getD_map_range _ _ _ _ hk]
  unfold prodRow
  rw [getD_map_range _ _ _ _ hk, h1, Nat.mul_one]
  show _ = resN q (gAcc P (timesF w n b ls k) r c + _)
  refine resN_add q (by omega) _ _ _ ?_
  obtain ⟨u0, hu0⟩ := resN_back q (by omega) (accI n ((List.range n).map fun k => resN q (((if (r == c / P) = true then 2 ^ (w * (c % P)) % q else 0 : Nat) : Int) * (b.getD k 0 : Int))) (l.map (resN q)) n k)
  rw [hu0, accI_nega n _ _ k hk]
  have hlD : ∀ j, (ls.getD c []).getD j 0 = l.getD j 0 := fun j => by simp only [List.getD_eq_getElem?_getD, hl, Option.getD_some]
  by_cases hd : c / P = r
  · rw [if_pos hd]
    have hbe : (r == c / P) = true := by simp [hd]
    simp only [hbe, if_true]
    obtain ⟨u, hu⟩ := nega_mod n q (fun i => ((((List.range n).map fun k => resN q (((2 ^ (w * (c % P)) % q : Nat) : Int) * (b.getD k 0 : Int))).getD i 0 : Nat) : Int)) (fun j => 2 ^ (w * (c % P)) * (b.getD j 0 : Int)) (fun j => (((l.map (resN q)).getD j 0 : Nat) : Int)) (fun j => (ls.getD c []).getD j 0)
      (fun i hi => by
        show ∃ u, ((((List.range n).map fun k => resN q (((2 ^ (w * (c % P)) % q : Nat) : Int) * (b.getD k 0 : Int))).getD i 0 : Nat) : Int) = _
        rw [getD_map_range _ _ _ _ hi]
        obtain ⟨v, hv⟩ := resN_back q (by omega) (((2 ^ (w * (c % P)) % q : Nat) : Int) * (b.getD i 0 : Int))
        have hm : ((2 ^ (w * (c % P)) % q : Nat) : Int) = (2 : Int) ^ (w * (c % P)) + (q : Int) * (-((2 ^ (w * (c % P)) / q : Nat) : Int)) := by
          have h := Nat.div_add_mod (2 ^ (w * (c % P))) q
          have h2 : ((2 ^ (w * (c % P)) : Nat) : Int) = (q : Int) * ((2 ^ (w * (c % P)) / q : Nat) : Int) + ((2 ^ (w * (c % P)) % q : Nat) : Int) := by
            rw [← Int.natCast_mul, ← Int.natCast_add, h]
          have h3 : (2 : Int) ^ (w * (c % P)) = ((2 ^ (w * (c % P)) : Nat) : Int) := by simp
          rw [h3, h2, Int.mul_neg]; omega
        refine ⟨-((2 ^ (w * (c % P)) / q : Nat) : Int) * (b.getD i 0 : Int) + v, ?_⟩
        rw [hv, hm, Int.add_mul, Int.mul_add, Int.mul_assoc (q : Int)]
        omega)
      (fun i hi => by
        show ∃ u, (((l.map (resN q)).getD i 0 : Nat) : Int) = _
        rw [getD_map_resN q l i (by omega), hlD]
        exact resN_back q (by omega) _) k
    rw [hu]
    exact ⟨u + u0, by rw [Int.mul_add]; show _ = timesF w n b ls k c (c % P) + _; unfold timesF; omega⟩
  · rw [if_neg hd]
    have hbe : (r == c / P) = false := by rw [beq_eq_false_iff_ne]; omega
    simp only [hbe, Bool.false_eq_true, if_false]
    rw [nega_congr (f' := fun _ => 0) (g' := fun j => (((l.map (resN q)).getD j 0 : Nat) : Int)) (fun i hi => by
      rw [getD_map_range _ _ _ _ hi]; simp [resN]) (fun _ _ => rfl), nega_zero_left]
    exact ⟨u0, by omega⟩
theorem nega_sum_right (n : Nat) (f : Nat → Int) (G : Nat → Nat → Int) (k : Nat) : ∀ P, sumN (fun m => nega n f (G m) k) P = nega n f (fun j => sumN (fun m => G m j) P) k
  | 0 => by
    show (0 : Int) = nega n f (fun _ => 0) k
    rw [nega_comm, nega_zero_left]
  | P + 1 => by
    show sumN _ P + nega n f (G P) k = _
    rw [nega_sum_right n f G k P, ← nega_add_right]
    rfl
/-- In the end it is the product. -/
theorem timesRows_all (wn : Nat) (h : Int) (hw : (2 : Int) ^ wn = 2 * h) (P n lv : Nat) (hP : 1 ≤ P) (chain ml : List Nat) (hml : ∀ r, r < lv → ml.getD r 0 = chain.getD r 0) (hq : ∀ r, r < lv → 3 ≤ ml.getD r 0) (xs ys : List (List Nat)) :
    timesRows wn P n ml ys (digL h P n chain xs (lv * P)) lv (lv * P) = zipRows (prodRow n) ml xs ys lv := by
  unfold timesRows zipRows
  refine List.map_congr_left fun r hr => ?_
  rw [List.mem_range] at hr
  unfold prodRow
  refine List.map_congr_left fun k hk => ?_
  rw [List.mem_range] at hk
  obtain ⟨e, he⟩ : ∃ e, lv * P = r * P + P + e := ⟨lv * P - (r * P + P), by
    have : (r + 1) * P ≤ lv * P := Nat.mul_le_mul_right _ hr
    rw [Nat.succ_mul] at this; omega⟩
  have h3 := hq r hr
  have hg : gAcc P (timesF wn n (ys.getD r []) (digL h P n chain xs (lv * P)) k) r (lv * P) = nega n (fun j => ((ys.getD r []).getD j 0 : Int)) (fun j => cent (ml.getD r 0) ((xs.getD r []).getD j 0)) k := by
    rw [he, gAcc_after P hP, ← he]
    have e1 : sumN (fun m => timesF wn n (ys.getD r []) (digL h P n chain xs (lv * P)) k (r * P + m) m) P = sumN (fun m => nega n (fun j => ((ys.getD r []).getD j 0 : Int)) (fun j => 2 ^ (wn * m) * digI h P (cent (ml.getD r 0) ((xs.getD r []).getD j 0)) m) k) P := by
      refine sumN_congr fun m hm => ?_
      unfold timesF
      rw [nega_mul_left, nega_mul_right]
      congr 1
      refine nega_congr (fun _ _ => rfl) (fun j hj => ?_) k
      show digAt _ P r j m = _
      rw [digAt_dig r j m hr hj hm, hml r hr]
    rw [e1, nega_sum_right]
    refine nega_congr (fun _ _ => rfl) (fun j _ => dig_sum wn h hw P hP _) k
  rw [hg, accI_nega n _ _ k hk, nega_comm]
  obtain ⟨u, hu⟩ := nega_mod n (ml.getD r 0) (fun j => cent (ml.getD r 0) ((xs.getD r []).getD j 0)) (fun j => ((xs.getD r []).getD j 0 : Int)) (fun j => ((ys.getD r []).getD j 0 : Int)) (fun j => ((ys.getD r []).getD j 0 : Int))
    (fun i _ => by
      show ∃ u, cent (ml.getD r 0) ((xs.getD r []).getD i 0) = _
      unfold cent
      split
      · exact ⟨-1, by omega⟩
      · exact ⟨0, by omega⟩) (fun i _ => ⟨0, by omega⟩) k
  exact resN_eq _ (by omega) _ _ u hu
end Go.Proofs.Ytpcpgmgpkegjlaa

/- Plain: what the functions make passes the check. -/
namespace Go.Proofs.Ytpcpgmgpkegjlaa
open Go.RowKit Go.Shelf Go.BigFrame
theorem checkB_of_elt {n lv : Nat} {chain : List Nat} {sp : Nat} {special : Bool} {rows : List (List Nat)} (hv : validB (n : Int) chain sp = true) (hp : placeB chain sp (lv : Int) special = true) (he : EltOk n (modl chain sp lv special) rows) : checkB (n : Int) chain sp (lv : Int) special rows = true := by
  unfold checkB preB
  rw [hv, hp]
  simp only [Int.toNat_natCast, Bool.true_and, Bool.and_eq_true, decide_eq_true_eq]
  refine ⟨he.1, ?_⟩
  rw [List.all_eq_true]
  intro x _
  obtain ⟨x, hx⟩ := x
  obtain ⟨r, hr⟩ : ∃ r, rows[x]? = some r := ⟨rows[x]'(by rw [he.1]; exact hx), List.getElem?_eq_getElem _⟩
  obtain ⟨k1, q, hq, k2⟩ := he.2 x r hr
  have hq3 : (modl chain sp lv special)[x] = q := by
    rw [List.getElem?_eq_getElem hx] at hq; injection hq
  unfold okRow
  simp only [hr, Option.any_some, Bool.and_eq_true, decide_eq_true_eq, Bool.not_eq_true']
  refine ⟨by omega, ?_⟩
  unfold anyGe
  rw [List.any_eq_false]
  intro y hy
  have := k2 y hy
  show ¬ decide (_ ≤ y) = true
  rw [hq3]
  simp; omega
theorem EltOk.ofMap {n : Nat} {ml : List Nat} (f : Nat → List Nat) (h : ∀ i q, ml[i]? = some q → (f i).length = n ∧ ∀ x ∈ f i, x < q) : EltOk n ml ((List.range ml.length).map f) := by
  refine ⟨by simp, fun i r hr => ?_⟩
  have hi : i < ml.length := by
    have := (List.getElem?_eq_some_iff.1 hr).1
    simpa using this
  obtain rfl : f i = r := by
    rw [List.getElem?_map, List.getElem?_range hi, Option.map_some] at hr
    injection hr
  exact ⟨(h i _ (List.getElem?_eq_getElem hi)).1, _, List.getElem?_eq_getElem hi, (h i _ (List.getElem?_eq_getElem hi)).2⟩
theorem EltOk.zip {n : Nat} {ml : List Nat} (f : Nat → List Nat → List Nat → List Nat) (xs ys : List (List Nat)) (h : ∀ q ∈ ml, ∀ a b, (f q a b).length = n ∧ ∀ x ∈ f q a b, x < q) : EltOk n ml (zipRows f ml xs ys ml.length) := by
  unfold zipRows
  refine EltOk.ofMap _ fun i q hq => ?_
  have hg : ml.getD i 0 = q := by rw [List.getD_eq_getElem?_getD, hq]; rfl
  rw [hg]
  exact h q (List.mem_of_getElem? hq) _ _
theorem prodRow_ok (n q : Nat) (hq : 0 < q) (a b : List Nat) : (prodRow n q a b).length = n ∧ ∀ x ∈ prodRow n q a b, x < q := by
  refine ⟨by simp [prodRow], fun x hx => ?_⟩
  unfold prodRow at hx
  rw [List.mem_map] at hx
  obtain ⟨k, _, rfl⟩ := hx
  exact resN_lt q _ hq
theorem sumRow_ok (k : Int) (n q : Nat) (hq : 0 < q) (a b : List Nat) : (sumRow k n q a b).length = n ∧ ∀ x ∈ sumRow k n q a b, x < q := by
  refine ⟨by simp [sumRow], fun x hx => ?_⟩
  unfold sumRow at hx
  rw [List.mem_map] at hx
  obtain ⟨j, _, rfl⟩ := hx
  exact Nat.mod_lt _ hq
theorem intRows_ok {n : Nat} {ml : List Nat} (hq : ∀ q ∈ ml, 0 < q) (l : List Int) (hl : l.length = n) : EltOk n ml (intRows ml l) := by
  unfold intRows
  refine ⟨by simp, fun i r hr => ?_⟩
  rw [List.getElem?_map] at hr
  cases hq' : ml[i]? with
  | none => rw [hq'] at hr; cases hr
  | some q =>
    rw [hq', Option.map_some] at hr
    obtain rfl : l.map (resN q) = r := by injection hr
    refine ⟨by simp [hl], q, rfl, fun x hx => ?_⟩
    rw [List.mem_map] at hx
    obtain ⟨z, _, rfl⟩ := hx
    exact resN_lt q _ (hq q (List.mem_of_getElem? hq'))
theorem weightRows_ok {chain : List Nat} {n t d : Nat} (hn : 1 ≤ n) (hq : ∀ q ∈ chain, 0 < q) : EltOk n chain (weightRows chain n t d chain.length) := by
  unfold weightRows
  refine EltOk.ofMap _ fun i q hqi => ?_
  have hg : chain.getD i 0 = q := by rw [List.getD_eq_getElem?_getD, hqi]; rfl
  rw [hg]
  have h0 := hq q (List.mem_of_getElem? hqi)
  refine ⟨weightRow_length _ _ _ _ hn, fun x hx => ?_⟩
  unfold weightRow at hx
  split at hx
  · rcases List.mem_cons.1 hx with rfl | hx
    · exact Nat.mod_lt _ h0
    · rw [List.mem_replicate] at hx; omega
  · rw [List.mem_replicate] at hx; omega
theorem EltOk.take {n lv L : Nat} {chain : List Nat} {sp : Nat} {rows : List (List Nat)} (h : EltOk n (modl chain sp lv false) rows) (hL : L ≤ lv) (hlv : lv ≤ chain.length) : EltOk n (modl chain sp L false) (rows.take L) := by
  have m1 := modl_length chain sp lv false hlv
  have m2 := modl_length chain sp L false (by omega)
  refine ⟨by rw [List.length_take, h.1, m1, m2]; simp; omega, fun i r hr => ?_⟩
  rw [List.getElem?_take] at hr
  split at hr
  · rename_i hi
    obtain ⟨k1, q, hq, k2⟩ := h.2 i r hr
    refine ⟨k1, q, ?_, k2⟩
    unfold modl at hq ⊢
    simp only [Bool.false_eq_true, if_false, List.append_nil, List.getElem?_take] at hq ⊢
    rw [if_pos hi]
    rw [if_pos (by omega)] at hq
    exact hq
  · cases hr
theorem modl_all (chain : List Nat) (sp : Nat) : modl chain sp chain.length false = chain := by unfold modl; simp
theorem modl_getD (chain : List Nat) (sp lv r : Nat) (hr : r < lv) : (modl chain sp lv false).getD r 0 = chain.getD r 0 := by
  unfold modl
  simp only [Bool.false_eq_true, if_false, List.append_nil, List.getD_eq_getElem?_getD, List.getElem?_take]
  rw [if_pos hr]
theorem placeB_ok {chain : List Nat} {sp lv : Nat} (h1 : 1 ≤ lv) (h2 : lv ≤ chain.length) : placeB chain sp (lv : Int) false = true := by
  unfold placeB levB
  simp; omega
theorem twoB_mk {N : Int} {chain : List Nat} {sp : Nat} {l : Int} {s : Bool} {xs ys : List (List Nat)} (h1 : checkB N chain sp l s xs = true) (h2 : checkB N chain sp l s ys = true) : twoB N chain sp l l s s xs ys = true := by
  unfold twoB; rw [h1, h2]; simp
theorem intRows_range (ml : List Nat) (l : List Int) (lv : Nat) (h : ml.length = lv) : intRows ml l = (List.range lv).map fun r => l.map (resN (ml.getD r 0)) := by
  unfold intRows
  apply List.ext_getElem
  · simp [h]
  · intro i h1 h2
    simp only [List.getElem_map, List.getElem_range]
    rw [List.getD_eq_getElem?_getD, List.getElem?_eq_getElem (by simpa using h1)]
    rfl
theorem intRows_zero (ml : List Nat) (n lv : Nat) (h : ml.length = lv) : intRows ml (List.replicate n 0) = (List.range lv).map fun _ => List.replicate n 0 := by
  rw [intRows_range ml _ lv h]
  refine List.map_congr_left fun r _ => ?_
  rw [List.map_replicate]
  congr 1
theorem timesRows_ok {w P n lv : Nat} {ml : List Nat} {ys : List (List Nat)} {ls : List (List Int)} {c : Nat} (h : ml.length = lv) (hq : ∀ q ∈ ml, 0 < q) : EltOk n ml (timesRows w P n ml ys ls lv c) := by
  unfold timesRows
  subst h
  refine EltOk.ofMap _ fun i q hqi => ?_
  have hg : ml.getD i 0 = q := by rw [List.getD_eq_getElem?_getD, hqi]; rfl
  rw [hg]
  refine ⟨by simp, fun x hx => ?_⟩
  rw [List.mem_map] at hx
  obtain ⟨k, _, rfl⟩ := hx
  exact resN_lt q _ (hq q (List.mem_of_getElem? hqi))
end Go.Proofs.Ytpcpgmgpkegjlaa
