/- Plain: long division by words: the numbers of a round; the rows in memory. -/
import Derived.Test.YtnjblppapmflhaaXD2
import Derived.Test.YtnjblppapmflhaaXF1
namespace Go.Proofs.Ytnjblppapmflhaa
set_option linter.all false
open Go.RowKit Go.Shelf Go.WideNum
theorem top_two {B X k : Nat} (hB : 0 < B) (h : X < B ^ (k + 2)) : X / B ^ k = dig B X (k + 1) * B + dig B X k := by
  have hp : 0 < B ^ k := Nat.pow_pos hB
  unfold dig
  have h1 : X / B ^ k < B * B := (Nat.div_lt_iff_lt_mul hp).2 (by rw [Nat.pow_succ, Nat.pow_succ] at h; rw [Nat.mul_assoc, Nat.mul_comm] at h; exact h)
  rw [Nat.pow_succ, ← Nat.div_div_eq_div_mul]
  obtain ⟨Y, hY⟩ : ∃ Y, Y = X / B ^ k := ⟨_, rfl⟩
  rw [← hY] at h1 ⊢
  have h2 : Y / B < B := (Nat.div_lt_iff_lt_mul hB).2 h1
  rw [Nat.mod_eq_of_lt h2]
  have := Nat.mod_add_div Y B
  rw [Nat.mul_comm] at this
  omega
theorem wd_len_le2 {A C k : Nat} (h : A ≤ C) (hc : (wd C).length ≤ k) : (wd A).length ≤ k := by
  have h1 := words_length (B := 4294967296) (by omega) A (wd C).length (Nat.lt_of_le_of_lt h (wd_vlt C))
  unfold wd at *; omega
theorem norm_facts (A C s n p : Nat) (hn : n = (wd C).length) (hp : p = (wd A).length) (hAC : C ≤ A) (hn2 : 2 ≤ n) (hs : s < 32) (htop : dig 4294967296 C (n - 1) < 2 ^ (32 - s)) :
    (wd (C * 2 ^ s)).length = n ∧ A * 2 ^ s < C * 2 ^ s * 4294967296 ^ (p + 1 - n) ∧ A * 2 ^ s < 4294967296 ^ (p + 1) ∧ (wd (A * 2 ^ s)).length ≤ p + 1 ∧ n ≤ p ∧ C * 2 ^ s < 4294967296 ^ n ∧ 4294967296 ^ (n - 1) ≤ C * 2 ^ s ∧ 0 < C := by
  have hp2 : 0 < 2 ^ s := Nat.pow_pos (by omega)
  have hCl := wd_vlt C
  have hAl := wd_vlt A
  rw [← hn] at hCl
  rw [← hp] at hAl
  have hClo : 4294967296 ^ (n - 1) ≤ C := by
    rcases Nat.lt_or_ge C (4294967296 ^ (n - 1)) with h | h
    · have := words_length (B := 4294967296) (by omega) C (n - 1) h
      unfold wd at hn
      omega
    · exact h
  have hC0 : 0 < C := Nat.lt_of_lt_of_le (Nat.pow_pos (by omega)) hClo
  have hnp : n ≤ p := by
    rcases Nat.lt_or_ge p n with h | h
    · exfalso
      have h1 : 4294967296 ^ p ≤ 4294967296 ^ (n - 1) := Nat.pow_le_pow_right (by omega) (by omega)
      omega
    · exact h
  have hpn : 0 < 4294967296 ^ (n - 1) := Nat.pow_pos (by omega)
  have hsplit : 4294967296 ^ n = 4294967296 ^ (n - 1) * 4294967296 := by rw [← Nat.pow_succ]; congr 1; omega
  have hVl : C * 2 ^ s < 4294967296 ^ n := by
    have h1 : dig 4294967296 C (n - 1) = C / 4294967296 ^ (n - 1) := by
      unfold dig
      refine Nat.mod_eq_of_lt ((Nat.div_lt_iff_lt_mul hpn).2 ?_)
      rw [Nat.mul_comm, ← hsplit]; exact hCl
    rw [h1] at htop
    obtain ⟨t, ht⟩ : ∃ t, t = C / 4294967296 ^ (n - 1) := ⟨_, rfl⟩
    rw [← ht] at htop
    have h2 : C < (t + 1) * 4294967296 ^ (n - 1) := by
      have h3 := Nat.mod_add_div C (4294967296 ^ (n - 1))
      have h4 := Nat.mod_lt C hpn
      rw [← ht, Nat.mul_comm] at h3
      rw [Nat.add_mul, Nat.one_mul]
      omega
    have h3 : (t + 1) * 4294967296 ^ (n - 1) * 2 ^ s ≤ 2 ^ (32 - s) * 4294967296 ^ (n - 1) * 2 ^ s := Nat.mul_le_mul_right _ (Nat.mul_le_mul_right _ htop)
    have h4 : 2 ^ (32 - s) * 4294967296 ^ (n - 1) * 2 ^ s = 4294967296 ^ n := by
      rw [hsplit, Nat.mul_right_comm, ← Nat.pow_add, show 32 - s + s = 32 by omega, Nat.mul_comm]
    have h5 : C * 2 ^ s < (t + 1) * 4294967296 ^ (n - 1) * 2 ^ s := (Nat.mul_lt_mul_right hp2).2 h2
    omega
  have hVlo : 4294967296 ^ (n - 1) ≤ C * 2 ^ s := Nat.le_trans hClo (Nat.le_mul_of_pos_right _ hp2)
  have h2s : 2 ^ s < 4294967296 := by rw [show (4294967296 : Nat) = 2 ^ 32 by rfl]; exact Nat.pow_lt_pow_right (by omega) hs
  have hA2 : A * 2 ^ s < 4294967296 ^ (p + 1) := by rw [Nat.pow_succ]; exact Nat.mul_lt_mul'' hAl h2s
  refine ⟨?_, ?_, hA2, words_length (by omega) _ _ hA2, hnp, hVl, hVlo, hC0⟩
  · have h1 := words_length (B := 4294967296) (by omega) _ _ hVl
    have h2 := words_lenlt (B := 4294967296) (by omega) _ _ hVlo
    unfold wd
    omega
  · have h1 : 4294967296 ^ p = 4294967296 ^ (n - 1) * 4294967296 ^ (p + 1 - n) := by rw [← Nat.pow_add]; congr 1; omega
    have h2 : 4294967296 ^ (n - 1) * 4294967296 ^ (p + 1 - n) ≤ C * 4294967296 ^ (p + 1 - n) := Nat.mul_le_mul_right _ hClo
    rw [Nat.mul_right_comm]
    exact (Nat.mul_lt_mul_right hp2).2 (by omega)
/-- The numbers of a round: the divisor's two upper words, the dividend's two and the next, the word that is sought. -/
structure Rnd (V X k j v1 v2 top u2 q : Nat) : Prop where
  hV0 : 0 < V
  low : v1 * 4294967296 ^ (k + 1) ≤ V
  pos : 0 < v1
  v1B : v1 < 4294967296
  v2B : v2 < 4294967296
  hV : V / 4294967296 ^ k = v1 * 4294967296 + v2
  hU : X / 4294967296 ^ j / 4294967296 ^ k = top * 4294967296 + u2
  htop : top = X / 4294967296 ^ j / 4294967296 ^ (k + 1)
  topB : top < (v1 + 1) * 4294967296
  top64 : top < 18446744073709551616
  u2B : u2 < 4294967296
  hq : q = X / 4294967296 ^ j / V
  qB : q < 4294967296
theorem rnd_of (V X k j : Nat) (hVl : V < 4294967296 ^ (k + 2)) (hVlo : 4294967296 ^ (k + 1) ≤ V) (hX : X < V * 4294967296 ^ (j + 1)) :
    Rnd V X k j (dig 4294967296 V (k + 1)) (dig 4294967296 V k) (dig 4294967296 X (j + (k + 2)) * 4294967296 + dig 4294967296 X (j + (k + 1))) (dig 4294967296 X (j + k)) (X / 4294967296 ^ j / V) := by
  have hB : 0 < 4294967296 := by omega
  have hV0 : 0 < V := Nat.lt_of_lt_of_le (Nat.pow_pos hB) hVlo
  have hj : 0 < 4294967296 ^ j := Nat.pow_pos hB
  have hk : 0 < 4294967296 ^ k := Nat.pow_pos hB
  have hk1 : 0 < 4294967296 ^ (k + 1) := Nat.pow_pos hB
  have hd1 : dig 4294967296 V (k + 1) = V / 4294967296 ^ (k + 1) := by
    unfold dig
    refine Nat.mod_eq_of_lt ((Nat.div_lt_iff_lt_mul hk1).2 ?_)
    rw [Nat.mul_comm, ← Nat.pow_succ]; exact hVl
  have hXl : X < 4294967296 ^ (j + k + 1 + 2) := by
    refine Nat.lt_of_lt_of_le hX ?_
    rw [show j + k + 1 + 2 = (k + 2) + (j + 1) by omega, Nat.pow_add 4294967296 (k + 2)]
    exact Nat.mul_le_mul_right _ (Nat.le_of_lt hVl)
  have hUV : X / 4294967296 ^ j < V * 4294967296 := (Nat.div_lt_iff_lt_mul hj).2 (by rw [Nat.mul_assoc, Nat.mul_comm 4294967296, ← Nat.pow_succ]; exact hX)
  have htop : dig 4294967296 X (j + (k + 2)) * 4294967296 + dig 4294967296 X (j + (k + 1)) = X / 4294967296 ^ j / 4294967296 ^ (k + 1) := by
    rw [Nat.div_div_eq_div_mul, ← Nat.pow_add, show j + (k + 2) = j + (k + 1) + 1 by omega]
    exact (top_two (k := j + (k + 1)) hB (by rw [show j + (k + 1) + 2 = j + k + 1 + 2 by omega]; exact hXl)).symm
  have hx1 := dig_lt hB X (j + (k + 2))
  have hx2 := dig_lt hB X (j + (k + 1))
  have hx3 := dig_lt hB X (j + k)
  have hv1 := dig_lt hB V (k + 1)
  have hv2 := dig_lt hB V k
  have hlow : dig 4294967296 V (k + 1) * 4294967296 ^ (k + 1) ≤ V := by rw [hd1]; exact Nat.div_mul_le_self _ _
  have hhigh : V < (dig 4294967296 V (k + 1) + 1) * 4294967296 ^ (k + 1) := by
    have h3 := Nat.mod_add_div V (4294967296 ^ (k + 1))
    have h4 := Nat.mod_lt V hk1
    rw [Nat.mul_comm] at h3
    rw [hd1, Nat.add_mul, Nat.one_mul]
    omega
  refine ⟨hV0, hlow, ?_, hv1, hv2, top_two hB hVl, ?_, htop, ?_, by omega, hx3, rfl, (Nat.div_lt_iff_lt_mul hV0).2 (by rw [Nat.mul_comm]; exact hUV)⟩
  · rw [hd1]; exact Nat.div_pos hVlo hk1
  · have h1 : X / 4294967296 ^ j / 4294967296 ^ k = X / 4294967296 ^ (j + k) := by rw [Nat.div_div_eq_div_mul, ← Nat.pow_add]
    have h2 : X / 4294967296 ^ (j + (k + 1)) = X / 4294967296 ^ (j + k) / 4294967296 := by rw [← Nat.add_assoc, Nat.pow_succ, Nat.div_div_eq_div_mul]
    rw [htop, Nat.div_div_eq_div_mul _ _ (4294967296 ^ (k + 1)), ← Nat.pow_add, h2, h1]
    unfold dig
    have := Nat.mod_add_div (X / 4294967296 ^ (j + k)) 4294967296
    rw [Nat.mul_comm] at this
    omega
  · rw [htop]
    refine (Nat.div_lt_iff_lt_mul hk1).2 ?_
    have h5 : V * 4294967296 ≤ (dig 4294967296 V (k + 1) + 1) * 4294967296 ^ (k + 1) * 4294967296 := Nat.mul_le_mul_right _ (Nat.le_of_lt hhigh)
    rw [Nat.mul_right_comm] at h5
    omega
theorem Rnd.ge {V X k j v1 v2 top u2 q : Nat} (h : Rnd V X k j v1 v2 top u2 q) : q ≤ top / v1 := by
  rw [h.hq]
  exact guess_ge (B := 4294967296) h.low h.htop (by omega) h.pos
theorem Rnd.down {V X k j v1 v2 top u2 q g r : Nat} (h : Rnd V X k j v1 v2 top u2 q) (hg : g * v1 + r = top) (hq : q ≤ g) (ht : 4294967296 ≤ g ∨ r * 4294967296 + u2 < g * v2) : q < g := by
  rcases ht with ht | ht
  · have := h.qB; omega
  · have h1 := guess_gt (B := 4294967296) (V := V) (U := X / 4294967296 ^ j) (n := k) (g := g) (by omega) h.hV h.hU (by omega) (by rw [show top - g * v1 = r by omega]; exact ht)
    rw [h.hq]; exact h1
theorem Rnd.fin {V X k j v1 v2 top u2 q g r : Nat} (h : Rnd V X k j v1 v2 top u2 q) (hg : g * v1 + r = top) (hgB : g < 4294967296) (ht : ¬ r * 4294967296 + u2 < g * v2) : g ≤ q + 1 := by
  have h1 := guess_le (B := 4294967296) (V := V) (U := X / 4294967296 ^ j) (n := k) (g := g) (by omega) h.hV0 h.hV h.hU h.pos hgB (by omega) (by rw [show top - g * v1 = r by omega]; omega)
  rw [h.hq]; exact h1
theorem Rnd.fin2 {V X k j v1 v2 top u2 q g r : Nat} (h : Rnd V X k j v1 v2 top u2 q) (hg : g * v1 + r = top) (hr : 4294967296 ≤ r) : g < 4294967296 ∧ g ≤ q + 1 := by
  obtain ⟨h1, h2⟩ := guess_rest (B := 4294967296) (v1 := v1) (v2 := v2) (top := top) (u2 := u2) (g := g) h.pos h.v2B h.topB (by omega) (by omega)
  rw [show top - g * v1 = r by omega] at h2
  exact ⟨h1, h.fin hg h1 (by omega)⟩
/-- The rows of the division in memory: the dividend's, whose number is T; the quotient's. -/
def DSt (W2 w : World) (gU L cU gq m T : Nat) (f : Nat → Nat) : Prop :=
  w.owns W2.heap.size 23 1 (.slice (some ⟨gU, 0, none⟩) L cU) L (((List.range L).map (dig 4294967296 T)).map u32V) ∧
  w.heap[gq]? = some (.cells (rowF f m) 23) ∧ Below W2.heap.size W2 w ∧ gq ≠ gU ∧ W2.heap.size ≤ gq
theorem DSt.cell {W2 w : World} {gU L cU gq m T : Nat} {f : Nat → Nat} (h : DSt W2 w gU L cU gq m T f) (k : Nat) (hk : k < L) :
    w.cell? ⟨gU, k, none⟩ = some (.int .u32 (dig 4294967296 T k : Int)) ∧ w.frozen? ⟨gU, k, none⟩ = false :=
  ⟨h.1.cell k _ (by simp [u32V, hk]), owns_fz h.1 k hk⟩
theorem DSt.set {W2 w : World} {gU L cU gq m T : Nat} {f : Nat → Nat} (h : DSt W2 w gU L cU gq m T f) (k y : Nat) (hk : k < L) (hy : y < 4294967296) :
    DSt W2 (w.setCell ⟨gU, k, none⟩ (.int .u32 (y : Int))) gU L cU gq m (setDig 4294967296 T k y) f := by
  obtain ⟨h1, h2, h3, h4, h5⟩ := h
  have hlt := (h1.lt gU rfl).1
  refine ⟨?_, by rw [Below.heap_setCell _ _ _ _ h4]; exact h2, h3.setCell hlt _, h4, h5⟩
  have h6 := h1.setOwn k (.int .u32 (y : Int))
  have e : (((List.range L).map (dig 4294967296 T)).map u32V).set k (.int .u32 (y : Int)) = ((List.range L).map (dig 4294967296 (setDig 4294967296 T k y))).map u32V := by
    apply List.ext_getElem?
    intro i
    rcases Nat.lt_or_ge i L with hi | hi
    · by_cases hik : k = i
      · subst hik
        simp [hi, u32V, dig_setDig (show 0 < 4294967296 by omega) T k y hy]
      · simp [hi, u32V, List.getElem?_set, hik, dig_setDig (show 0 < 4294967296 by omega) T k y hy, Ne.symm hik]
    · rw [List.getElem?_eq_none (by simpa using hi), List.getElem?_eq_none (by simpa using hi)]
  rw [← e]; exact h6
theorem DSt.drew {W2 w : World} {gU L cU gq m T : Nat} {f : Nat → Nat} (h : DSt W2 w gU L cU gq m T f) : DSt W2 w.drew gU L cU gq m T f := ⟨h.1, h.2.1, h.2.2.1.drew, h.2.2.2⟩
theorem DSt.drewN {W2 w : World} {gU L cU gq m T : Nat} {f : Nat → Nat} (h : DSt W2 w gU L cU gq m T f) (n : Nat) : DSt W2 (w.drewN n) gU L cU gq m T f := ⟨h.1, h.2.1, below_drewN h.2.2.1 n, h.2.2.2⟩
theorem DSt.qcell {W2 w : World} {gU L cU gq m T : Nat} {f : Nat → Nat} (h : DSt W2 w gU L cU gq m T f) (k : Nat) (hk : k < m) :
    w.cell? ⟨gq, k, none⟩ = some (.int .u32 (f k : Int)) ∧ w.frozen? ⟨gq, k, none⟩ = false := rowF_cell h.2.1 k hk
theorem DSt.qset {W2 w : World} {gU L cU gq m T : Nat} {f f' : Nat → Nat} (h : DSt W2 w gU L cU gq m T f) (k : Nat) (hf : ∀ j, j < m → j ≠ k → f j = f' j) :
    DSt W2 (w.setCell ⟨gq, k, none⟩ (.int .u32 (f' k : Int))) gU L cU gq m T f' := by
  obtain ⟨h1, h2, h3, h4, h5⟩ := h
  exact ⟨h1.setCell_ne (by simp [Value.ownBlock]; exact Ne.symm h4) _, rowF_set h2 hf, h3.setCell h5 _, h4, h5⟩
end Go.Proofs.Ytnjblppapmflhaa
