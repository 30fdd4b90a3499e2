/- Plain: long division by words: the words of a round, as the walk meets them. -/
import Derived.Test.YtnjblppapmflhaaXD3
namespace Go.Proofs.Ytnjblppapmflhaa
set_option linter.all false
open Go.RowKit Go.Shelf Go.WideNum
theorem and_lo32 (y : Nat) (hy : y < 18446744073709551616) : bits .and .u64 (y : Int) 4294967295 = ((y % 4294967296 : Nat) : Int) := by
  show IntKind.u64.wrap ((BitVec.ofInt 64 _ &&& BitVec.ofInt 64 _).toNat : Int) = _
  rw [BitVec.ofInt_natCast, show (4294967295 : Int) = ((4294967295 : Nat) : Int) by rfl, BitVec.ofInt_natCast, BitVec.toNat_and, BitVec.toNat_ofNat, BitVec.toNat_ofNat, Nat.mod_eq_of_lt (by omega), Nat.mod_eq_of_lt (by omega), show (4294967295 : Nat) = 2 ^ 32 - 1 by rfl, Nat.and_two_pow_sub_one_eq_mod, IntKind.wrap_u64]
  omega
theorem wrap_sub2' (x c y z d : Nat) (h : x + 4294967296 * d = y + c + z) (hd : d ≤ 1) (hz : z < 4294967296) :
    ∃ T : Int, IntKind.u64.wrap (IntKind.u64.wrap ((x : Int) - (c : Int)) - (y : Int)) = T ∧ T % 4294967296 = (z : Int) ∧ T / 9223372036854775808 = (d : Int) := by
  refine ⟨_, rfl, ?_, ?_⟩ <;> rw [IntKind.wrap_u64, IntKind.wrap_u64] <;> rcases (show d = 0 ∨ d = 1 by omega) with rfl | rfl <;> omega
/-- One word of a multiple is taken away. -/
theorem sub_words (g v c b x : Nat) (hg : g < 4294967296) (hv : v < 4294967296) (hc : c < 4294967296) (hb : b ≤ 1) (hx : x < 4294967296) :
    ∃ (M pw lo hi z d : Nat) (T : Int), g * v + c = hi * 4294967296 + lo ∧ hi < 4294967296 ∧ z < 4294967296 ∧ d ≤ 1 ∧ z + lo + b = x + d * 4294967296 ∧ M ≤ 18446744065119617025 ∧ pw = M + c ∧ lo < 4294967296 ∧
      IntKind.u64.wrap ((g : Int) * (v : Int)) = (M : Int) ∧ IntKind.u64.wrap ((M : Int) + (c : Int)) = (pw : Int) ∧ (pw : Int) / 4294967296 = (hi : Int) ∧ bits .and .u64 (pw : Int) 4294967295 = (lo : Int) ∧
      IntKind.u64.wrap (IntKind.u64.wrap ((x : Int) - (b : Int)) - (lo : Int)) = T ∧ T % 4294967296 = (z : Int) ∧ T / 9223372036854775808 = (d : Int) := by
  have h1 : g * v ≤ 4294967295 * 4294967295 := Nat.mul_le_mul (by omega) (by omega)
  obtain ⟨M, hM⟩ : ∃ M, M = g * v := ⟨_, rfl⟩
  rw [← hM] at h1 ⊢
  have hand := and_lo32 (M + c) (by omega)
  obtain ⟨lo, hlo⟩ : ∃ lo, lo = (M + c) % 4294967296 := ⟨_, rfl⟩
  obtain ⟨hi, hhi⟩ : ∃ hi, hi = (M + c) / 4294967296 := ⟨_, rfl⟩
  rw [← hlo] at hand
  have hMw : IntKind.u64.wrap ((g : Int) * (v : Int)) = (M : Int) := by
    rw [show ((g : Int) * (v : Int)) = (M : Int) by rw [hM]; simp, IntKind.wrap_u64]; omega
  by_cases h : lo + b ≤ x
  · obtain ⟨T, t1, t2, t3⟩ := wrap_sub2' x b lo (x - lo - b) 0 (by omega) (by omega) (by omega)
    exact ⟨M, M + c, lo, hi, x - lo - b, 0, T, by omega, by omega, by omega, by omega, by omega, h1, rfl, by omega, hMw, by rw [IntKind.wrap_u64]; omega, by omega, hand, t1, t2, t3⟩
  · obtain ⟨T, t1, t2, t3⟩ := wrap_sub2' x b lo (x + 4294967296 - lo - b) 1 (by omega) (by omega) (by omega)
    exact ⟨M, M + c, lo, hi, x + 4294967296 - lo - b, 1, T, by omega, by omega, by omega, by omega, by omega, h1, rfl, by omega, hMw, by rw [IntKind.wrap_u64]; omega, by omega, hand, t1, t2, t3⟩
/-- The last word. -/
theorem sub_lastW (c b x : Nat) (hc : c < 4294967296) (hb : b ≤ 1) (hx : x < 4294967296) :
    ∃ (z d : Nat) (T : Int), z < 4294967296 ∧ d ≤ 1 ∧ z + b + c = x + d * 4294967296 ∧
      IntKind.u64.wrap (IntKind.u64.wrap ((x : Int) - (b : Int)) - (c : Int)) = T ∧ T % 4294967296 = (z : Int) ∧ T / 9223372036854775808 = (d : Int) := by
  by_cases h : c + b ≤ x
  · obtain ⟨T, t1, t2, t3⟩ := wrap_sub2' x b c (x - c - b) 0 (by omega) (by omega) (by omega)
    exact ⟨x - c - b, 0, T, by omega, by omega, by omega, t1, t2, t3⟩
  · obtain ⟨T, t1, t2, t3⟩ := wrap_sub2' x b c (x + 4294967296 - c - b) 1 (by omega) (by omega) (by omega)
    exact ⟨x + 4294967296 - c - b, 1, T, by omega, by omega, by omega, t1, t2, t3⟩
/-- What the multiple leaves, once it is taken away whole. -/
theorem sub_end {D V X g j n T b c y d : Nat} (hV0 : 0 < V) (hVn : V < 4294967296 ^ n) (hX : X < V * 4294967296 ^ (j + 1)) (hq1 : X / 4294967296 ^ j / V = dig 4294967296 (D / V) j) (hq2 : X - X / 4294967296 ^ j / V * V * 4294967296 ^ j = D % (V * 4294967296 ^ j))
    (h : SubSt 4294967296 V X g j n T b c) (hg1 : X / 4294967296 ^ j / V ≤ g) (hg2 : g ≤ X / 4294967296 ^ j / V + 1) (hy : y < 4294967296) (hd : d ≤ 1) (hst : y + b + c = dig 4294967296 X (n + j) + d * 4294967296) :
    (d = 0 → g = dig 4294967296 (D / V) j ∧ setDig 4294967296 T (n + j) y = D % (V * 4294967296 ^ j)) ∧
    (d = 1 → g = dig 4294967296 (D / V) j + 1 ∧ setDig 4294967296 T (n + j) y + V * 4294967296 ^ j = D % (V * 4294967296 ^ j) + 4294967296 ^ (n + j + 1) ∧ (∀ k, n + j + 1 ≤ k → dig 4294967296 (setDig 4294967296 T (n + j) y) k = 0)) := by
  have hl := h.last (by omega) hVn hV0 hX hg1 hg2 hy hd hst
  rw [hq1] at hl hq2
  rcases hl with ⟨rfl, h1, h2⟩ | ⟨rfl, h1, h2, h3⟩
  · exact ⟨fun _ => ⟨h1, by rw [h2, hq2]⟩, fun h => by omega⟩
  · refine ⟨fun h => by omega, fun _ => ⟨h1, ?_, h3⟩⟩
    have hqX : X / 4294967296 ^ j / V * V * 4294967296 ^ j ≤ X := Nat.le_trans (Nat.mul_le_mul_right _ (Nat.div_mul_le_self _ _)) (Nat.div_mul_le_self _ _)
    rw [hq1] at hqX
    rw [h1, Nat.add_mul, Nat.one_mul, Nat.add_mul] at h2
    generalize dig 4294967296 (D / V) j * V * 4294967296 ^ j = F at *
    omega
/-- One word of the divisor is added again. -/
theorem add_words (c u v : Nat) (hc : c ≤ 1) (hu : u < 4294967296) (hv : v < 4294967296) :
    ∃ t s z d : Nat, t = u + v ∧ s = c + t ∧ z < 4294967296 ∧ d ≤ 1 ∧ c + (u + v) = z + d * 4294967296 ∧ s ≤ 8589934591 ∧ (u : Int) + (v : Int) = (t : Int) ∧ (c : Int) + (t : Int) = (s : Int) ∧ (s : Int) % 4294967296 = (z : Int) ∧ (s : Int) / 4294967296 = (d : Int) := by
  exact ⟨u + v, c + (u + v), (c + (u + v)) % 4294967296, (c + (u + v)) / 4294967296, rfl, rfl, by omega, by omega, by omega, by omega, by omega, by omega, by omega, by omega⟩
theorem q_upto (f : Nat → Nat) (j k : Nat) (h : k ≠ j) : (if j + 1 ≤ k then f k else 0) = (if j ≤ k then f k else 0) := by
  by_cases h1 : j ≤ k
  · rw [if_pos h1, if_pos (by omega)]
  · rw [if_neg h1, if_neg (by omega)]
theorem DSt.qend {W2 w : World} {gU L cU gq m T T' Q j g : Nat} (h : DSt W2 w gU L cU gq m T (fun i => if j + 1 ≤ i then dig 4294967296 Q i else 0)) (hT : T = T') (hg : g = dig 4294967296 Q j) :
    DSt W2 (w.setCell ⟨gq, j, none⟩ (.int .u32 (g : Int))) gU L cU gq m T' (fun i => if j ≤ i then dig 4294967296 Q i else 0) := by
  subst hT
  have e : g = (fun i => if j ≤ i then dig 4294967296 Q i else 0) j := by rw [hg]; exact (if_pos (Nat.le_refl j)).symm
  rw [e]
  exact h.qset (f' := fun i => if j ≤ i then dig 4294967296 Q i else 0) j (fun i _ hi => q_upto _ j i hi)
/-- The end of the division: what is read of the rows. -/
theorem DSt.fin {W2 w : World} {gU L cU gq m T n : Nat} {f : Nat → Nat} (h : DSt W2 w gU L cU gq m T f) (hT : T < 4294967296 ^ n) (hn : n ≤ L) (hL : L ≤ 100000) :
    ∃ R, (∀ W, Below w.heap.size w W → Calls Try.prog 89 #[.slice (some ⟨gU, 0, none⟩) n cU] W fun e w' => e = .returned (.slice (some ⟨gU, 0, none⟩) R cU) ∧ W = w') ∧
      (∀ W, Below w.heap.size w W → World.numR W (.slice (some ⟨gU, 0, none⟩) R cU) T) := by
  obtain ⟨l, hl⟩ : ∃ l, l = (List.range n).map (dig 4294967296 T) := ⟨_, rfl⟩
  have h1 := World.owns.takeR h.1 hn (by simp)
  have e1 : (((List.range L).map (dig 4294967296 T)).map u32V).take n = l.map u32V := by
    rw [hl, ← List.map_take, ← List.map_take, List.take_range, Nat.min_eq_left hn]
  rw [e1] at h1
  have hll : l.length = n := by rw [hl]; simp
  have h2 := World.owns.takeR h1 (show (trimL l).length ≤ n by have := trimL_len l; omega) (by simp)
  rw [← List.map_take, trimL_take] at h2
  have hw : trimL l = wd T := by rw [hl]; exact range_wd T n hT
  have hc2 : n ≤ cU := by
    rcases h1.2 with ⟨h0, -⟩ | ⟨g, cap, cur, fz, e, hb, hg, hf, hc, -⟩
    · cases h0
    · injection e with _ _ e3; omega
  rw [hw] at h2
  refine ⟨(trimL l).length, fun W hW => ?_, fun W hW => ?_⟩
  · refine norm_list l _ n rfl hll.symm _ cU (by omega) hc2 W (fun k x hk => ⟨gU, 0, rfl, ?_⟩)
    rcases Nat.lt_or_ge k n with hkn | hkn
    · have h3 := (h.cell k (by omega)).1
      have hk2 : x = dig 4294967296 T k := by
        rw [hl, List.getElem?_map, List.getElem?_range hkn] at hk
        injection hk with hk
        exact hk.symm
      rw [hk2, Nat.zero_add]
      have hlt := (h.1.lt gU rfl).2
      exact (hW.cell (p := ⟨gU, k, none⟩) hlt).trans h3
    · rw [List.getElem?_eq_none (by omega)] at hk
      cases hk
  · rw [hw]
    have h5 : World.numR w (.slice (some ⟨gU, 0, none⟩) (wd T).length cU) T := h2.reads
    exact numR_below h5 hW
theorem DSt.finQ {W2 w : World} {gU L cU gq m T Q : Nat} (h : DSt W2 w gU L cU gq m T (dig 4294967296 Q)) (hQ : Q < 4294967296 ^ m) (hm : m ≤ 100000) :
    ∃ R, (∀ W, Below w.heap.size w W → Calls Try.prog 89 #[.slice (some ⟨gq, 0, none⟩) m m] W fun e w' => e = .returned (.slice (some ⟨gq, 0, none⟩) R m) ∧ W = w') ∧
      (∀ W, Below w.heap.size w W → World.numR W (.slice (some ⟨gq, 0, none⟩) R m) Q) := by
  obtain ⟨R, HR⟩ : ∃ R, Hid (R = (trimL ((List.range m).map (dig 4294967296 Q))).length) := ⟨_, rfl⟩
  have hlt : gq < w.heap.size := (Array.getElem?_eq_some_iff.1 h.2.1).1
  refine ⟨R, fun W hW => norm_rowF _ _ _ R HR W _ ((hW.block _ hlt).trans h.2.1) hm, fun W hW => ?_⟩
  have h1 := (num_retF (w := W2) HR h.2.1 h.2.2.1 h.2.2.2.2 hm hQ).numR
  exact numR_below h1 hW
end Go.Proofs.Ytnjblppapmflhaa
