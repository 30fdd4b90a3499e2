/- Plain: a disk: numbers that are written; a record that is added; all that are replaced. -/
import Derived.Test.YtjfmcobikadjhaaDP2
namespace Go.Proofs.Ytjfmcobikadjhaa
set_option linter.all false
open Go.RowKit Go.Shelf
theorem numF_add (b : List UInt8) : ∀ n : Nat, b.foldl (fun n c => n * 256 + c.toNat) n = n * 256 ^ b.length + b.foldl (fun n c => n * 256 + c.toNat) 0 := by
  induction b with
  | nil => intro n; simp
  | cons c b ih =>
    intro n
    rw [List.foldl_cons, List.foldl_cons, ih (n * 256 + c.toNat), ih (0 * 256 + c.toNat), List.length_cons, Nat.pow_succ, Nat.zero_mul, Nat.zero_add, Nat.add_mul, Nat.mul_assoc, Nat.mul_comm 256 (256 ^ b.length), Nat.add_assoc]
theorem numL_append (a b : List UInt8) : numL (a ++ b) = numL a * 256 ^ b.length + numL b := by
  unfold numL
  rw [List.foldl_append, numF_add]
theorem numL_wbytes (x : BitVec 64) : ∀ k, k ≤ 8 → numL (wbytes x k) = x.toNat / 2 ^ (64 - 8 * k) := by
  intro k
  induction k with
  | zero =>
    intro _
    have := x.isLt
    rw [Nat.div_eq_of_lt (by simpa using this)]
    rfl
  | succ k ih =>
    intro hk
    rw [wbytes_succ, numL_snoc, ih (by omega)]
    unfold wbyte
    rw [UInt8.toNat_ofNat', show 64 - 8 * k = (64 - 8 * (k + 1)) + 8 by omega, Nat.pow_add, ← Nat.div_div_eq_div_mul, show 56 - 8 * k = 64 - 8 * (k + 1) by omega]
    generalize x.toNat / 2 ^ (64 - 8 * (k + 1)) = y
    omega
theorem wof_toNat (g : Nat) (hg : g < 18446744073709551616) : (wof (g : Int)).toNat = g := by
  unfold wof
  rw [BitVec.ofInt_natCast, BitVec.toNat_ofNat]
  exact mod64 g hg
theorem numL_eight (g : Nat) (hg : g < 18446744073709551616) : numL (eightL g) = g := by
  unfold eightL
  rw [numL_wbytes _ 8 (by omega), wof_toNat g hg]
  simp
theorem wbytes_take (x : BitVec 64) (k : Nat) (hk : k ≤ 8) : (wbytes x 8).take k = wbytes x k := by
  unfold wbytes
  rw [← List.map_take, List.take_range]
  congr 2
  omega
theorem numL_four (n : Nat) (hn : n ≤ 65535) : numL ((eightL n).drop 4) = n := by
  have h := numL_append ((eightL n).take 4) ((eightL n).drop 4)
  rw [List.take_append_drop, numL_eight n (by omega)] at h
  have h4 : numL ((eightL n).take 4) = 0 := by
    unfold eightL
    rw [wbytes_take _ 4 (by omega), numL_wbytes _ 4 (by omega), wof_toNat n (by omega)]
    omega
  rw [h4] at h
  omega
theorem body_four (g k : Nat) (r : List UInt8) : (bodyL g k r).take 4 = (eightL r.length).drop 4 := by
  unfold bodyL
  rw [List.append_assoc, List.take_append_of_le_length (by rw [List.length_drop, eightL_length]; omega), List.take_of_length_le (by rw [List.length_drop, eightL_length]; omega)]
theorem body_mid (g k : Nat) (r : List UInt8) : ((bodyL g k r).drop 4).take r.length = r := by
  unfold bodyL
  rw [List.append_assoc, List.drop_append, List.drop_of_length_le (by rw [List.length_drop, eightL_length]; omega), List.nil_append, List.length_drop, eightL_length]
  simp
theorem nextR_written {h : List UInt8} {g k : Nat} {r : List UInt8} (h1 : h[k]? = some 1) (hb : ∀ i, i < 12 + r.length → h[k + 1 + i]? = (bodyL g k r)[i]?) (hl : k + 13 + r.length ≤ h.length) (hr : r.length ≤ 65535) :
    nextR h g k = some (k + 13 + r.length, r) := by
  have hbl := bodyL_length g k r
  have e0 : (h.drop (k + 1)).take (12 + r.length) = bodyL g k r := by
    apply List.ext_getElem?
    intro i
    rw [List.getElem?_take]
    split
    · rw [List.getElem?_drop, hb i (by omega)]
    · rw [List.getElem?_eq_none (by omega)]
  have e1 : (h.drop (k + 1)).take 4 = (eightL r.length).drop 4 := by
    rw [← body_four g k r, ← e0, List.take_take]
    congr 1
    omega
  have e2 : (h.drop (k + 5)).take r.length = r := by
    have : (h.drop (k + 5)).take r.length = ((bodyL g k r).drop 4).take r.length := by
      rw [← e0, List.drop_take, List.drop_drop, List.take_take]
      rw [show min r.length (12 + r.length - 4) = r.length by omega]
    rw [this, body_mid]
  have e3 : h.getD k 0 = 1 := by rw [List.getD_eq_getElem?_getD, h1]; rfl
  unfold nextR
  rw [e1, numL_four _ hr, e0, e2, if_pos ⟨by omega, e3, hr, hl, rfl⟩]
theorem app_law (st : Wr) (n g : Nat) (r : List UInt8) (hf : st.failed = false) (hn : st.h.length = n) (h64 : 64 ≤ n) (hl : endR st.h g + 13 + r.length ≤ n) (hr : r.length ≤ 65535) :
    (appS st n g (endR st.h g) r).h.length = n ∧ genL (appS st n g (endR st.h g) r).h = genL st.h ∧
      ((appS st n g (endR st.h g) r).failed = true → recs (appS st n g (endR st.h g) r).h g = recs st.h g) ∧
      ((appS st n g (endR st.h g) r).failed = false → recs (appS st n g (endR st.h g) r).h g = recs st.h g ++ [(endR st.h g + 13 + r.length, r)]) := by
  obtain ⟨h17, hle⟩ := endR_bounds (h := st.h) g (by omega)
  have hend := recs_end (h := st.h) (g := g)
  obtain ⟨K, hK⟩ : ∃ K, K = endR st.h g := ⟨_, rfl⟩
  have hlen : (appS st n g K r).h.length = n := by
    unfold appS
    rw [putS_length, putS_length]
    split
    · rw [putS_length, putS_length, hn]
    · rw [putS_length, hn]
  have hbelow : ∀ i, i < K → (appS st n g K r).h[i]? = st.h[i]? := by
    intro i hi
    unfold appS
    rw [putS_keeps _ _ _ _ (Or.inl hi), putS_keeps _ _ _ _ (Or.inl (by omega))]
    split
    · rw [putS_keeps _ _ _ _ (Or.inl (by omega)), putS_keeps _ _ _ _ (Or.inl hi)]
    · rw [putS_keeps _ _ _ _ (Or.inl hi)]
  rw [← hK] at hl hend h17 hle ⊢
  refine ⟨hlen, genL_congr (fun i hi => hbelow i (by omega)), fun h => ?_, fun h => ?_⟩
  · have hm := mark_seq st K (fun s => putS (if K + 13 + r.length < n then putS s (K + 13 + r.length) [0] else s) (K + 1) (bodyL g K r)) (by omega)
      (fun s => by
        refine ⟨?_, fun i hi => ?_, ?_⟩
        · rw [putS_keeps _ _ _ _ (Or.inl (by omega))]
          split
          · rw [putS_keeps _ _ _ _ (Or.inl (by omega))]
          · rfl
        · rw [putS_keeps _ _ _ _ (Or.inl (by omega))]
          split
          · rw [putS_keeps _ _ _ _ (Or.inl (by omega))]
          · rfl
        · rw [putS_length]
          split
          · rw [putS_length]
          · rfl)
      (fun s hs => by
        split
        · obtain ⟨a1, a2⟩ := putS_blocked [0] s (K + 13 + r.length) hs
          obtain ⟨b1, b2⟩ := putS_blocked (bodyL g K r) _ (K + 1) a2
          exact ⟨b1.trans a1, b2⟩
        · exact putS_blocked _ _ _ hs) h
    refine recs_same (by rw [hlen, hn]) (by rw [← hK]; exact hbelow) ?_
    rw [← hK]
    rcases hm with hm | ⟨hm, -⟩
    · show nextR (appS st n g K r).h g K = none
      rw [show (appS st n g K r).h = st.h from hm]
      exact hend
    · exact nextR_off (by rw [show (appS st n g K r).h[K]? = some 0 from hm]; simp)
  · have h4 := h
    unfold appS at h4
    obtain ⟨f3, c4⟩ := putS_full _ _ _ h4
    obtain ⟨f2, c3⟩ := putS_full _ _ _ f3
    have hlen2 : (if K + 13 + r.length < n then putS (putS st K [0]) (K + 13 + r.length) [0] else putS st K [0]).h.length = n := by
      split
      · rw [putS_length, putS_length, hn]
      · rw [putS_length, hn]
    have hbl := bodyL_length g K r
    have hnx : nextR (appS st n g K r).h g K = some (K + 13 + r.length, r) := by
      refine nextR_written ?_ (fun i hi => ?_) (by rw [hlen]; exact hl) hr
      · have := c4 0 (by simp) (by rw [putS_length, hlen2]; omega)
        exact this
      · unfold appS
        rw [putS_keeps _ _ _ _ (Or.inr (by simp only [List.length_singleton]; omega)), c3 i (by omega) (by rw [hlen2]; omega)]
    have hno : nextR (appS st n g K r).h g (K + 13 + r.length) = none := by
      refine nextR_off ?_
      unfold appS
      rw [putS_keeps _ _ _ _ (Or.inr (by simp only [List.length_singleton]; omega)), putS_keeps _ _ _ _ (Or.inr (by omega))]
      by_cases hlt : K + 13 + r.length < n
      · rw [if_pos hlt] at f2 ⊢
        obtain ⟨-, c2⟩ := putS_full _ _ _ f2
        have := c2 0 (by simp) (by rw [putS_length, hn]; omega)
        rw [show K + 13 + r.length + 0 = K + 13 + r.length from rfl] at this
        rw [this]; simp
      · rw [if_neg hlt, List.getElem?_eq_none (by rw [putS_length, hn]; omega)]; simp
    have := recs_more (h := st.h) (g := g) (by rw [hlen, hn]) (by rw [← hK]; exact hbelow) (by rw [← hK]; exact hnx) hno
    exact this
end Go.Proofs.Ytjfmcobikadjhaa
