/- Plain: numbers in words of a base. -/
namespace Go.WideNum
/-- The value of words, the lowest first. -/
def valW (B : Nat) : List Nat → Nat
  | [] => 0
  | x :: l => x + B * valW B l
/-- The words of a number, without zeros at the end. -/
def wordsOf (B : Nat) : Nat → Nat → List Nat
  | 0, _ => []
  | f + 1, n => if n = 0 then [] else n % B :: wordsOf B f (n / B)
def words (B n : Nat) : List Nat := wordsOf B n n
theorem valW_append (B : Nat) (a b : List Nat) : valW B (a ++ b) = valW B a + B ^ a.length * valW B b := by
  induction a with
  | nil => simp [valW]
  | cons x a ih => rw [List.cons_append, valW, ih, valW, List.length_cons, Nat.pow_succ, Nat.mul_add, ← Nat.mul_assoc, Nat.mul_comm B (B ^ a.length), Nat.add_assoc]
theorem valW_lt {B : Nat} (_hB : 0 < B) : ∀ l : List Nat, (∀ x ∈ l, x < B) → valW B l < B ^ l.length := by
  intro l
  induction l with
  | nil => intro _; simp [valW]
  | cons x l ih =>
    intro h
    have h1 := ih (fun y hy => h y (by simp [hy]))
    have h2 := h x (by simp)
    rw [valW, List.length_cons, Nat.pow_succ, Nat.mul_comm]
    have h3 : (valW B l + 1) * B ≤ B ^ l.length * B := Nat.mul_le_mul_right B h1
    rw [Nat.add_mul] at h3
    omega
theorem val_words {B : Nat} (hB : 1 < B) : ∀ (f n : Nat), n ≤ f → valW B (wordsOf B f n) = n := by
  intro f
  induction f with
  | zero => intro n h; have : n = 0 := by omega
            subst this; rfl
  | succ f ih =>
    intro n h
    rw [wordsOf]
    split
    · rename_i h0; rw [h0]; rfl
    · rename_i h0
      have hd : n / B < n := Nat.div_lt_self (by omega) hB
      rw [valW, ih (n / B) (by omega)]
      exact Nat.mod_add_div n B
/-- No zero at the end. -/
def trimmed (l : List Nat) : Prop := ∀ x, l.getLast? = some x → x ≠ 0
theorem words_lt {B : Nat} (hB : 0 < B) : ∀ (f n : Nat), ∀ x ∈ wordsOf B f n, x < B := by
  intro f
  induction f with
  | zero => intro n x hx; simp [wordsOf] at hx
  | succ f ih =>
    intro n x hx
    rw [wordsOf] at hx
    split at hx
    · simp at hx
    · rcases List.mem_cons.1 hx with rfl | hx
      · exact Nat.mod_lt _ hB
      · exact ih _ x hx
/-- Trimmed words are those of their value. -/
theorem words_val {B : Nat} (hB : 1 < B) : ∀ (l : List Nat), (∀ x ∈ l, x < B) → trimmed l → ∀ f, valW B l ≤ f → wordsOf B f (valW B l) = l := by
  intro l
  induction l with
  | nil => intro _ _ f _; cases f <;> simp [valW, wordsOf]
  | cons x l ih =>
    intro h ht f hf
    have hx := h x (by simp)
    have hl : ∀ y ∈ l, y < B := fun y hy => h y (by simp [hy])
    have htl : trimmed l := fun y hy => ht y (by
      cases l with
      | nil => simp at hy
      | cons z l => rw [List.getLast?_cons_cons]; exact hy)
    have hne : valW B (x :: l) ≠ 0 := by
      intro h0
      rw [valW] at h0
      have hx0 : x = 0 := by omega
      have hm : B * valW B l = 0 := by omega
      have hv : valW B l = 0 := by
        rcases Nat.mul_eq_zero.1 hm with h | h
        · omega
        · exact h
      cases l with
      | nil => exact ht x (by simp) hx0
      | cons z l2 =>
        have := ih hl htl 0 (by omega)
        rw [hv] at this
        simp [wordsOf] at this
    cases f with
    | zero => omega
    | succ f =>
      have hd : (x + B * valW B l) / B = valW B l := by
        rw [Nat.add_mul_div_left _ _ (by omega), Nat.div_eq_of_lt hx, Nat.zero_add]
      have hm : (x + B * valW B l) % B = x := by rw [Nat.add_mul_mod_self_left, Nat.mod_eq_of_lt hx]
      rw [wordsOf, if_neg hne, valW, hd, hm]
      rw [ih hl htl f (by
        have h2 : valW B l ≤ B * valW B l := Nat.le_mul_of_pos_left _ (by omega)
        have h3 : 2 * valW B l ≤ B * valW B l := Nat.mul_le_mul_right _ hB
        rw [valW] at hf hne
        omega)]
/-- The bytes of a number, the highest first, without zeros ahead. -/
def magL (n : Nat) : List UInt8 := ((words 256 n).map UInt8.ofNat).reverse
/-- The number of some bytes, the highest first. -/
def valM (l : List UInt8) : Nat := valW 256 (l.reverse.map UInt8.toNat)
theorem valM_magL (n : Nat) : valM (magL n) = n := by
  unfold valM magL
  rw [List.reverse_reverse, List.map_map]
  have h : (words 256 n).map (UInt8.toNat ∘ UInt8.ofNat) = words 256 n := by
    have : ∀ l : List Nat, (∀ x ∈ l, x < 256) → l.map (UInt8.toNat ∘ UInt8.ofNat) = l := by
      intro l
      induction l with
      | nil => intro _; rfl
      | cons x l ih =>
        intro h
        rw [List.map_cons, ih (fun y hy => h y (by simp [hy]))]
        have hx := h x (by simp)
        congr 1
        show (UInt8.ofNat x).toNat = x
        rw [UInt8.toNat_ofNat']
        omega
    exact this _ (words_lt (by omega) _ _)
  rw [h]
  exact val_words (by omega) n n (Nat.le_refl _)
theorem magL_valM (l : List UInt8) (h : l.head? ≠ some 0) : magL (valM l) = l := by
  have hw : words 256 (valM l) = l.reverse.map UInt8.toNat := by
    refine words_val (by omega) _ (fun x hx => ?_) (fun x hx => ?_) _ (Nat.le_refl _)
    · obtain ⟨y, _, rfl⟩ := List.mem_map.1 hx
      exact y.toNat_lt
    · rw [List.getLast?_map, List.getLast?_reverse] at hx
      intro h0
      cases hl : l.head? with
      | none => rw [hl] at hx; simp at hx
      | some y =>
        rw [hl] at hx
        simp at hx
        apply h
        rw [hl]
        congr 1
        apply UInt8.toNat_inj.1
        rw [hx, h0]; rfl
  unfold magL
  rw [hw, List.map_map, List.map_reverse, List.reverse_reverse]
  have : ∀ l : List UInt8, l.map (UInt8.ofNat ∘ UInt8.toNat) = l := by
    intro l
    induction l with
    | nil => rfl
    | cons x l ih =>
      rw [List.map_cons, ih]
      congr 1
      show UInt8.ofNat x.toNat = x
      simp
  exact this l
theorem magL_inj {a b : Nat} (h : magL a = magL b) : a = b := by rw [← valM_magL a, h, valM_magL]
theorem wordsOf_length {B : Nat} (_hB : 1 < B) : ∀ (f n k : Nat), n < B ^ k → (wordsOf B f n).length ≤ k := by
  intro f
  induction f with
  | zero => intro n k _; simp [wordsOf]
  | succ f ih =>
    intro n k h
    rw [wordsOf]
    split
    · simp
    · rename_i h0
      cases k with
      | zero => simp at h; omega
      | succ k =>
        have h1 : n / B < B ^ k := by
          rw [Nat.pow_succ] at h
          exact Nat.div_lt_of_lt_mul (by rw [Nat.mul_comm]; exact h)
        have := ih (n / B) k h1
        rw [List.length_cons]; omega
theorem words_trimmed {B : Nat} (hB : 1 < B) : ∀ (f n : Nat), n ≤ f → trimmed (wordsOf B f n) := by
  intro f
  induction f with
  | zero => intro n _ x hx; simp [wordsOf] at hx
  | succ f ih =>
    intro n h
    rw [wordsOf]
    split
    · intro x hx; simp at hx
    · rename_i h0
      have hd : n / B < n := Nat.div_lt_self (by omega) hB
      intro x hx
      cases hl : wordsOf B f (n / B) with
      | nil =>
        rw [hl] at hx
        simp at hx
        have hv := val_words hB f (n / B) (by omega)
        rw [hl] at hv
        have h2 := Nat.mod_add_div n B
        rw [← hv] at h2
        simp [valW] at h2
        rw [← hx]
        omega
      | cons y l =>
        rw [hl, List.getLast?_cons_cons] at hx
        exact ih (n / B) (by omega) x (by rw [hl]; exact hx)
end Go.WideNum
