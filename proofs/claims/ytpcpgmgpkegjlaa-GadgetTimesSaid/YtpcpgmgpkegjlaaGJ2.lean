/- Plain: products modulo x^n + 1 commute; digits, times the weights, are the integer; what the law on products says. -/
import Derived.Test.YtpcpgmgpkegjlaaGJ1
namespace Go.Proofs.Ytpcpgmgpkegjlaa
open Go.RowKit Go.Shelf Go.BigFrame
def sumN (f : Nat → Int) : Nat → Int
  | 0 => 0
  | k + 1 => sumN f k + f k
theorem sumN_congr {f g : Nat → Int} : ∀ {n : Nat}, (∀ i, i < n → f i = g i) → sumN f n = sumN g n
  | 0, _ => rfl
  | n + 1, h => by
    show sumN f n + f n = sumN g n + g n
    rw [sumN_congr (fun i hi => h i (by omega)), h n (by omega)]
theorem sumN_add (f g : Nat → Int) : ∀ n, sumN (fun i => f i + g i) n = sumN f n + sumN g n
  | 0 => rfl
  | n + 1 => by
    show sumN _ n + (f n + g n) = sumN f n + f n + (sumN g n + g n)
    rw [sumN_add f g n]; omega
theorem sumN_mul (c : Int) (f : Nat → Int) : ∀ n, sumN (fun i => c * f i) n = c * sumN f n
  | 0 => by simp [sumN]
  | n + 1 => by
    show sumN _ n + c * f n = c * (sumN f n + f n)
    rw [sumN_mul c f n, Int.mul_add]
theorem sumN_zero : ∀ n, sumN (fun _ => 0) n = 0
  | 0 => rfl
  | n + 1 => by show sumN _ n + 0 = 0; rw [sumN_zero n]; rfl
theorem sumN_single (f : Nat → Int) (j : Nat) : ∀ n, (∀ i, i < n → i ≠ j → f i = 0) → sumN f n = if j < n then f j else 0
  | 0, _ => by simp [sumN]
  | n + 1, h => by
    show sumN f n + f n = _
    rw [sumN_single f j n (fun i hi hne => h i (by omega) hne)]
    by_cases e : n = j
    · subst e; simp
    · rw [h n (by omega) e]
      by_cases h1 : j < n
      · rw [if_pos h1, if_pos (by omega)]; omega
      · rw [if_neg h1, if_neg (by omega)]; rfl
theorem sumN_swap (F : Nat → Nat → Int) (m : Nat) : ∀ n, sumN (fun i => sumN (fun j => F i j) m) n = sumN (fun j => sumN (fun i => F i j) n) m
  | 0 => by show (0 : Int) = sumN (fun _ => 0) m; rw [sumN_zero]
  | n + 1 => by
    show sumN _ n + sumN (fun j => F n j) m = _
    rw [sumN_swap F m n, ← sumN_add]
    rfl
/-- The product, as a double sum. -/
def tI (n i j k : Nat) : Int := if i + j = k then 1 else if i + j = n + k then -1 else 0
theorem tI_symm (n i j k : Nat) : tI n i j k = tI n j i k := by unfold tI; rw [Nat.add_comm]
def nega (n : Nat) (f g : Nat → Int) (k : Nat) : Int := sumN (fun i => sumN (fun j => tI n i j k * (f i * g j)) n) n
theorem nega_comm (n : Nat) (f g : Nat → Int) (k : Nat) : nega n f g k = nega n g f k := by
  unfold nega
  rw [sumN_swap]
  refine sumN_congr fun i _ => sumN_congr fun j _ => ?_
  rw [tI_symm, Int.mul_comm (f j)]
theorem nega_congr {n : Nat} {f f' g g' : Nat → Int} (hf : ∀ i, i < n → f i = f' i) (hg : ∀ i, i < n → g i = g' i) (k : Nat) : nega n f g k = nega n f' g' k := by
  unfold nega
  exact sumN_congr fun i hi => sumN_congr fun j hj => by rw [hf i hi, hg j hj]
theorem nega_zero_left (n : Nat) (g : Nat → Int) (k : Nat) : nega n (fun _ => 0) g k = 0 := by
  unfold nega
  rw [sumN_congr (g := fun _ => 0) (fun i _ => by rw [sumN_congr (g := fun _ => 0) (fun j _ => by simp), sumN_zero]), sumN_zero]
theorem nega_add_right (n : Nat) (f g g' : Nat → Int) (k : Nat) : nega n f (fun j => g j + g' j) k = nega n f g k + nega n f g' k := by
  unfold nega
  rw [← sumN_add]
  refine sumN_congr fun i _ => ?_
  rw [← sumN_add]
  refine sumN_congr fun j _ => ?_
  rw [Int.mul_add, Int.mul_add]
theorem nega_mul_left (n : Nat) (c : Int) (f g : Nat → Int) (k : Nat) : nega n (fun i => c * f i) g k = c * nega n f g k := by
  unfold nega
  rw [← sumN_mul]
  refine sumN_congr fun i _ => ?_
  rw [← sumN_mul]
  refine sumN_congr fun j _ => ?_
  rw [Int.mul_assoc c, Int.mul_left_comm]
theorem nega_mul_right (n : Nat) (c : Int) (f g : Nat → Int) (k : Nat) : nega n f (fun j => c * g j) k = c * nega n f g k := by
  rw [nega_comm, nega_mul_left, nega_comm]
/-- What the walk of the product makes is this product. -/
theorem accI_nega (n : Nat) (a b : List Nat) (k : Nat) (hk : k < n) : accI n a b n k = nega n (fun i => (a.getD i 0 : Int)) (fun j => (b.getD j 0 : Int)) k := by
  have h : ∀ m, m ≤ n → accI n a b m k = sumN (fun i => sumN (fun j => tI n i j k * ((a.getD i 0 : Int) * (b.getD j 0 : Int))) n) m := by
    intro m
    induction m with
    | zero => intro _; rfl
    | succ m ih =>
      intro hm
      show accI n a b m k + termI n a b m k = sumN _ m + _
      rw [ih (by omega)]
      congr 1
      show termI n a b m k = sumN (fun j => tI n m j k * ((a.getD m 0 : Int) * (b.getD j 0 : Int))) n
      unfold termI
      by_cases h1 : m ≤ k
      · rw [if_pos h1, sumN_single _ (k - m) n (fun j hj hne => by unfold tI; rw [if_neg (by omega), if_neg (by omega)]; simp), if_pos (by omega)]
        unfold tI
        rw [if_pos (by omega)]; omega
      · rw [if_neg h1]
        by_cases hjn : n + k - m < n
        · rw [sumN_single _ (n + k - m) n (fun j hj hne => by unfold tI; rw [if_neg (by omega), if_neg (by omega)]; simp), if_pos hjn]
          unfold tI
          rw [if_neg (by omega), if_pos (by omega)]; omega
        · omega
  exact h n (Nat.le_refl _)
/-- Congruent factors. -/
theorem nega_mod (n q : Nat) (f f' g g' : Nat → Int) (hf : ∀ i, i < n → ∃ u, f i = f' i + (q : Int) * u) (hg : ∀ i, i < n → ∃ u, g i = g' i + (q : Int) * u) (k : Nat) : ∃ u, nega n f g k = nega n f' g' k + (q : Int) * u := by
  have h1 : ∃ F : Nat → Int, ∀ i, i < n → f i = f' i + (q : Int) * F i := ⟨fun i => if h : i < n then Classical.choose (hf i h) else 0, fun i hi => by
    have := Classical.choose_spec (hf i hi)
    simp only [hi, dif_pos]; exact this⟩
  have h2 : ∃ G : Nat → Int, ∀ i, i < n → g i = g' i + (q : Int) * G i := ⟨fun i => if h : i < n then Classical.choose (hg i h) else 0, fun i hi => by
    have := Classical.choose_spec (hg i hi)
    simp only [hi, dif_pos]; exact this⟩
  obtain ⟨F, hF⟩ := h1
  obtain ⟨G, hG⟩ := h2
  refine ⟨nega n F g k + nega n f' G k, ?_⟩
  rw [nega_congr hF (fun _ _ => rfl) k]
  have e1 : nega n (fun i => f' i + (q : Int) * F i) g k = nega n f' g k + (q : Int) * nega n F g k := by
    rw [nega_comm, nega_add_right, nega_comm n g, nega_comm n g, nega_mul_left]
  rw [e1, nega_congr (f := f') (f' := f') (fun _ _ => rfl) hG k, nega_add_right, nega_mul_right, Int.mul_add]
  omega
/-! ### The digits, times their weights -/
theorem dig_sum (wn : Nat) (h : Int) (hw : (2 : Int) ^ wn = 2 * h) (P : Nat) (hP : 1 ≤ P) (x : Int) : sumN (fun k => 2 ^ (wn * k) * digI h P x k) P = x := by
  have h1 : ∀ c, c ≤ P - 1 → sumN (fun k => 2 ^ (wn * k) * digI h P x k) c + 2 ^ (wn * c) * xsI h x c = x := by
    intro c
    induction c with
    | zero => intro _; simp [sumN, xsI]
    | succ c ih =>
      intro hc
      have := ih (by omega)
      show sumN _ c + 2 ^ (wn * c) * digI h P x c + _ = x
      have hx := xs_step h x c
      have hd : digI h P x c = (xsI h x c + h) % (2 * h) - h := by unfold digI; rw [if_pos (by omega)]
      have hp : (2 : Int) ^ (wn * (c + 1)) = 2 ^ (wn * c) * (2 * h) := by rw [Nat.mul_succ, Int.pow_add, hw]
      rw [hd, hp, Int.mul_assoc]
      rw [hx, Int.mul_add] at this
      omega
  obtain ⟨m, rfl⟩ : ∃ m, P = m + 1 := ⟨P - 1, by omega⟩
  have h2 := h1 m (by omega)
  have hd : digI h (m + 1) x m = xsI h x m := by unfold digI; rw [if_neg (by omega)]
  show sumN _ m + 2 ^ (wn * m) * digI h (m + 1) x m = x
  rw [hd]; exact h2
def gAcc (P : Nat) (F : Nat → Nat → Int) (r : Nat) : Nat → Int
  | 0 => 0
  | i + 1 => gAcc P F r i + (if i / P = r then F i (i % P) else 0)
theorem gAcc_before (P : Nat) (hP : 1 ≤ P) (F : Nat → Nat → Int) (r : Nat) : ∀ c, c ≤ r * P → gAcc P F r c = 0 := by
  intro c
  induction c with
  | zero => intro _; rfl
  | succ c ih =>
    intro hc
    show gAcc P F r c + _ = 0
    rw [ih (by omega), if_neg (by
      have : c / P < r := (Nat.div_lt_iff_lt_mul (by omega)).2 (by omega)
      omega)]
    rfl
theorem gAcc_in (P : Nat) (hP : 1 ≤ P) (F : Nat → Nat → Int) (r : Nat) : ∀ k, k ≤ P → gAcc P F r (r * P + k) = sumN (fun k => F (r * P + k) k) k := by
  intro k
  induction k with
  | zero => intro _; rw [Nat.add_zero, gAcc_before P hP F r _ (Nat.le_refl _)]; rfl
  | succ k ih =>
    intro hk
    have d1 : (r * P + k) / P = r := by rw [Nat.mul_comm, Nat.mul_add_div (by omega), Nat.div_eq_of_lt (by omega)]; omega
    have d2 : (r * P + k) % P = k := by rw [Nat.mul_comm, Nat.mul_add_mod, Nat.mod_eq_of_lt (by omega)]
    show gAcc P F r (r * P + k) + (if (r * P + k) / P = r then F (r * P + k) ((r * P + k) % P) else 0) = sumN _ k + F (r * P + k) k
    rw [ih (by omega), if_pos d1, d2]
theorem gAcc_after (P : Nat) (hP : 1 ≤ P) (F : Nat → Nat → Int) (r : Nat) : ∀ c, gAcc P F r (r * P + P + c) = sumN (fun k => F (r * P + k) k) P := by
  intro c
  induction c with
  | zero => exact gAcc_in P hP F r P (Nat.le_refl _)
  | succ c ih =>
    show gAcc P F r (r * P + P + c) + (if (r * P + P + c) / P = r then F (r * P + P + c) ((r * P + P + c) % P) else 0) = _
    rw [ih, if_neg (by
      have : r + 1 ≤ (r * P + P + c) / P := (Nat.le_div_iff_mul_le (by omega)).2 (by rw [Nat.succ_mul]; omega)
      omega)]
    omega
/-- What the sum has after c digits, at row r and place k: the factor's row is b, the digits' lists are ls. -/
def timesF (w n : Nat) (b : List Nat) (ls : List (List Int)) (k : Nat) (i m : Nat) : Int := nega n (fun j => 2 ^ (w * m) * (b.getD j 0 : Int)) (fun j => (ls.getD i []).getD j 0) k
def timesRows (w P n : Nat) (ml : List Nat) (ys : List (List Nat)) (ls : List (List Int)) (lv c : Nat) : List (List Nat) :=
  (List.range lv).map fun r => (List.range n).map fun k => resN (ml.getD r 0) (gAcc P (timesF w n (ys.getD r []) ls k) r c)
theorem timesRows_zero (w P n lv : Nat) (ml : List Nat) (ys : List (List Nat)) (ls : List (List Int)) : timesRows w P n ml ys ls lv 0 = (List.range lv).map fun _ => List.replicate n 0 := by
  unfold timesRows
  refine List.map_congr_left fun r _ => ?_
  refine List.ext_getElem (by simp) fun j h1 h2 => ?_
  simp [gAcc, resN]
theorem getD_map_resN (q : Nat) (l : List Int) (j : Nat) (hj : j < l.length) : (l.map (resN q)).getD j 0 = resN q (l.getD j 0) := by
  simp [List.getD_eq_getElem?_getD, hj]
theorem resN_back (q : Nat) (hq : 0 < q) (x : Int) : ∃ u, (resN q x : Int) = x + (q : Int) * u := by
  obtain ⟨t, ht⟩ := resN_spec q hq x
  exact ⟨-t, by rw [Int.mul_neg]; omega⟩
/-- One digit more. -/
theorem timesRows_step (w P n lv : Nat) (hn : 1 ≤ n) (ml chain : List Nat) (hml : ∀ r, r < lv → ml.getD r 0 = chain.getD r 0) (hlv : lv ≤ chain.length) (hq : ∀ r, r < lv → 3 ≤ ml.getD r 0) (ys : List (List Nat)) (ls : List (List Int)) (c : Nat) (l : List Int) (hl : ls[c]? = some l) (hln : l.length = n)
    (K I : List (List Nat)) (hK : K = (zipRows (prodRow n) chain (weightRows chain n (w * (c % P)) (c / P) chain.length) ys chain.length).take lv) (hI : I = (List.range lv).map fun r => l.map (resN (ml.getD r 0))) :
    zipRows (sumRow 1 n) ml (timesRows w P n ml ys ls lv c) (zipRows (prodRow n) ml K I lv) lv = timesRows w P n ml ys ls lv (c + 1) := by
  unfold timesRows
  unfold zipRows at *
  refine List.map_congr_left fun r hr => ?_
  rw [List.mem_range] at hr
  rw [getD_map_range _ _ _ _ hr, getD_map_range _ _ _ _ hr]
  have hKr : K.getD r [] = prodRow n (ml.getD r 0) (weightRow n (ml.getD r 0) (w * (c % P)) (r == c / P)) (ys.getD r []) := by
    rw [hK, List.getD_eq_getElem?_getD, List.getElem?_take, if_pos hr, List.getElem?_map, List.getElem?_range (by omega), Option.map_some, Option.getD_some, hml r hr]
    congr 1
    unfold weightRows
    rw [getD_map_range _ _ _ _ (by omega)]
  have hIr : I.getD r [] = l.map (resN (ml.getD r 0)) := by rw [hI, getD_map_range _ _ _ _ hr]
  rw [hKr, hIr]
  generalize hqd : ml.getD r 0 = q
  have hq3 : 3 ≤ q := by rw [← hqd]; exact hq r hr
  rw [prodRow_weight n q _ hn]
  generalize ys.getD r [] = b
  have h1 : resN q 1 = 1 := by
    have := resN_nat q 1 (by omega); simpa using this
  unfold sumRow
  refine List.map_congr_left fun k hk => ?_
  rw [List.mem_range] at hk
  rw [getD_map_range _ _ _ _ hk]
  unfold prodRow
  rw [getD_map_range _ _ _ _ hk, h1, Nat.mul_one]
  show _ = resN q (gAcc P (timesF w n b ls k) r c + _)
  refine resN_add q (by omega) _ _ _ ?_
  obtain ⟨u0, hu0⟩ := resN_back q (by omega) (accI n ((List.range n).map fun k => resN q (((if (r == c / P) = true then 2 ^ (w * (c % P)) % q else 0 : Nat) : Int) * (b.getD k 0 : Int))) (l.map (resN q)) n k)
  rw [hu0, accI_nega n _ _ k hk]
  have hlD : ∀ j, (ls.getD c []).getD j 0 = l.getD j 0 := fun j => by simp only [List.getD_eq_getElem?_getD, hl, Option.getD_some]
  by_cases hd : c / P = r
  · rw [if_pos hd]
    have hbe : (r == c / P) = true := by simp [hd]
    simp only [hbe, if_true]
    obtain ⟨u, hu⟩ := nega_mod n q (fun i => ((((List.range n).map fun k => resN q (((2 ^ (w * (c % P)) % q : Nat) : Int) * (b.getD k 0 : Int))).getD i 0 : Nat) : Int)) (fun j => 2 ^ (w * (c % P)) * (b.getD j 0 : Int)) (fun j => (((l.map (resN q)).getD j 0 : Nat) : Int)) (fun j => (ls.getD c []).getD j 0)
      (fun i hi => by
        show ∃ u, ((((List.range n).map fun k => resN q (((2 ^ (w * (c % P)) % q : Nat) : Int) * (b.getD k 0 : Int))).getD i 0 : Nat) : Int) = _
        rw [getD_map_range _ _ _ _ hi]
        obtain ⟨v, hv⟩ := resN_back q (by omega) (((2 ^ (w * (c % P)) % q : Nat) : Int) * (b.getD i 0 : Int))
        have hm : ((2 ^ (w * (c % P)) % q : Nat) : Int) = (2 : Int) ^ (w * (c % P)) + (q : Int) * (-((2 ^ (w * (c % P)) / q : Nat) : Int)) := by
          have h := Nat.div_add_mod (2 ^ (w * (c % P))) q
          have h2 : ((2 ^ (w * (c % P)) : Nat) : Int) = (q : Int) * ((2 ^ (w * (c % P)) / q : Nat) : Int) + ((2 ^ (w * (c % P)) % q : Nat) : Int) := by
            rw [← Int.natCast_mul, ← Int.natCast_add, h]
          have h3 : (2 : Int) ^ (w * (c % P)) = ((2 ^ (w * (c % P)) : Nat) : Int) := by simp
          rw [h3, h2, Int.mul_neg]; omega
        refine ⟨-((2 ^ (w * (c % P)) / q : Nat) : Int) * (b.getD i 0 : Int) + v, ?_⟩
        rw [hv, hm, Int.add_mul, Int.mul_add, Int.mul_assoc (q : Int)]
        omega)
      (fun i hi => by
        show ∃ u, (((l.map (resN q)).getD i 0 : Nat) : Int) = _
        rw [getD_map_resN q l i (by omega), hlD]
        exact resN_back q (by omega) _) k
    rw [hu]
    exact ⟨u + u0, by rw [Int.mul_add]; show _ = timesF w n b ls k c (c % P) + _; unfold timesF; omega⟩
  · rw [if_neg hd]
    have hbe : (r == c / P) = false := by rw [beq_eq_false_iff_ne]; omega
    simp only [hbe, Bool.false_eq_true, if_false]
    rw [nega_congr (f' := fun _ => 0) (g' := fun j => (((l.map (resN q)).getD j 0 : Nat) : Int)) (fun i hi => by
      rw [getD_map_range _ _ _ _ hi]; simp [resN]) (fun _ _ => rfl), nega_zero_left]
    exact ⟨u0, by omega⟩
theorem nega_sum_right (n : Nat) (f : Nat → Int) (G : Nat → Nat → Int) (k : Nat) : ∀ P, sumN (fun m => nega n f (G m) k) P = nega n f (fun j => sumN (fun m => G m j) P) k
  | 0 => by
    show (0 : Int) = nega n f (fun _ => 0) k
    rw [nega_comm, nega_zero_left]
  | P + 1 => by
    show sumN _ P + nega n f (G P) k = _
    rw [nega_sum_right n f G k P, ← nega_add_right]
    rfl
/-- In the end it is the product. -/
theorem timesRows_all (wn : Nat) (h : Int) (hw : (2 : Int) ^ wn = 2 * h) (P n lv : Nat) (hP : 1 ≤ P) (chain ml : List Nat) (hml : ∀ r, r < lv → ml.getD r 0 = chain.getD r 0) (hq : ∀ r, r < lv → 3 ≤ ml.getD r 0) (xs ys : List (List Nat)) :
    timesRows wn P n ml ys (digL h P n chain xs (lv * P)) lv (lv * P) = zipRows (prodRow n) ml xs ys lv := by
  unfold timesRows zipRows
  refine List.map_congr_left fun r hr => ?_
  rw [List.mem_range] at hr
  unfold prodRow
  refine List.map_congr_left fun k hk => ?_
  rw [List.mem_range] at hk
  obtain ⟨e, he⟩ : ∃ e, lv * P = r * P + P + e := ⟨lv * P - (r * P + P), by
    have : (r + 1) * P ≤ lv * P := Nat.mul_le_mul_right _ hr
    rw [Nat.succ_mul] at this; omega⟩
  have h3 := hq r hr
  have hg : gAcc P (timesF wn n (ys.getD r []) (digL h P n chain xs (lv * P)) k) r (lv * P) = nega n (fun j => ((ys.getD r []).getD j 0 : Int)) (fun j => cent (ml.getD r 0) ((xs.getD r []).getD j 0)) k := by
    rw [he, gAcc_after P hP, ← he]
    have e1 : sumN (fun m => timesF wn n (ys.getD r []) (digL h P n chain xs (lv * P)) k (r * P + m) m) P = sumN (fun m => nega n (fun j => ((ys.getD r []).getD j 0 : Int)) (fun j => 2 ^ (wn * m) * digI h P (cent (ml.getD r 0) ((xs.getD r []).getD j 0)) m) k) P := by
      refine sumN_congr fun m hm => ?_
      unfold timesF
      rw [nega_mul_left, nega_mul_right]
      congr 1
      refine nega_congr (fun _ _ => rfl) (fun j hj => ?_) k
      show digAt _ P r j m = _
      rw [digAt_dig r j m hr hj hm, hml r hr]
    rw [e1, nega_sum_right]
    refine nega_congr (fun _ _ => rfl) (fun j _ => dig_sum wn h hw P hP _) k
  rw [hg, accI_nega n _ _ k hk, nega_comm]
  obtain ⟨u, hu⟩ := nega_mod n (ml.getD r 0) (fun j => cent (ml.getD r 0) ((xs.getD r []).getD j 0)) (fun j => ((xs.getD r []).getD j 0 : Int)) (fun j => ((ys.getD r []).getD j 0 : Int)) (fun j => ((ys.getD r []).getD j 0 : Int))
    (fun i _ => by
      show ∃ u, cent (ml.getD r 0) ((xs.getD r []).getD i 0) = _
      unfold cent
      split
      · exact ⟨-1, by omega⟩
      · exact ⟨0, by omega⟩) (fun i _ => ⟨0, by omega⟩) k
  exact resN_eq _ (by omega) _ _ u hu
end Go.Proofs.Ytpcpgmgpkegjlaa
