/- Walks: a number shifted to the left. -/
import Derived.Test.YtdfklcmiagmgaaaWF3
namespace Go.Proofs.Ytdfklcmiagmgaaa
set_option linter.all false
open Go.RowKit Go.Shelf Go.WideNum
theorem dig_shift_hi {B : Nat} (hB : 0 < B) (N q i : Nat) : dig B (N * B ^ q) (q + i) = dig B N i := by
  unfold dig
  rw [Nat.pow_add, ← Nat.div_div_eq_div_mul, Nat.mul_div_cancel _ (Nat.pow_pos hB)]
theorem dig_shift_lo {B : Nat} (hB : 0 < B) (N q j : Nat) (h : j < q) : dig B (N * B ^ q) j = 0 := by
  unfold dig
  obtain ⟨d, rfl⟩ : ∃ d, q = j + (d + 1) := ⟨q - j - 1, by omega⟩
  rw [Nat.pow_add, ← Nat.mul_assoc, Nat.mul_right_comm, Nat.mul_div_cancel _ (Nat.pow_pos hB), Nat.pow_succ, ← Nat.mul_assoc, Nat.mul_mod_left]
theorem or_shl (c x s : Nat) (hs : s < 32) (hc : c < 2 ^ s) (hx : x < 4294967296) : bits .or .u64 (c : Int) (IntKind.u64.wrap ((x : Int) * 2 ^ s)) = ((c + x * 2 ^ s : Nat) : Int) ∧ c + x * 2 ^ s < 18446744073709551616 := by
  have h2 : 2 ^ s ≤ 2 ^ 31 := Nat.pow_le_pow_right (by omega) (by omega)
  have h3 : x * 2 ^ s ≤ x * 2 ^ 31 := Nat.mul_le_mul_left _ h2
  have h4 : c + x * 2 ^ s < 18446744073709551616 := by omega
  have h1 : IntKind.u64.wrap ((x : Int) * 2 ^ s) = ((x * 2 ^ s : Nat) : Int) := by
    rw [IntKind.wrap_u64]
    have e : ((x : Int) * 2 ^ s) = ((x * 2 ^ s : Nat) : Int) := by simp
    rw [e]
    generalize x * 2 ^ s = y at *
    omega
  refine ⟨?_, h4⟩
  rw [h1]
  exact or_hi .u64 (Or.inl rfl) s x c hc (by simp only [if_true]; omega)
set_option maxRecDepth 100000 in
set_option maxHeartbeats 4000000 in
theorem left_any (A k : Nat) (hk : k ≤ 100000) (va : Value) (w : World) (hA : w.reads w.heap.size va ((wd A).map u32V)) (hla : (wd A).length ≤ 2000) :
    Calls Try.prog 71 #[va, .int .i64 (k : Int)] w (NumRet w (A * 2 ^ k)) := by
  obtain ⟨aa, ca, rfl, hca, hma, hsa⟩ := reads_u32 hA
  clear hA
  obtain ⟨p, hp⟩ : ∃ n, n = (wd A).length := ⟨_, rfl⟩
  have hva := wd_vlt A
  rw [← hp] at hla hca hva ⊢
  have HA : Hid (∀ k, k < p → ∃ b off, aa = some ⟨b, off, none⟩ ∧ b < w.heap.size ∧ w.cell? ⟨b, off + k, none⟩ = some (.int .u32 (dig 4294967296 A k : Int))) := fun k hk => hsa k _ (wd_get _ k (by omega))
  have HVA := Lib.hid hva
  clear hp hsa hva
  obtain ⟨q, hq⟩ : ∃ q, q = k / 32 := ⟨_, rfl⟩
  obtain ⟨s, hs⟩ : ∃ s, s = k % 32 := ⟨_, rfl⟩
  have hs32 : s < 32 := by omega
  have e1 : (k : Int) / 32 = (q : Int) := by omega
  have e2 : (k : Int) % 32 = (s : Int) := by omega
  have hkq : Hid (A * 2 ^ k = A * 2 ^ s * 4294967296 ^ q) := by
    show _ = _
    rw [show (4294967296 : Nat) = 2 ^ 32 by rfl, ← Nat.pow_mul, Nat.mul_assoc, ← Nat.pow_add]
    congr 2; omega
  have hq2 : q ≤ 5000 := by omega
  clear hq hs
  obtain ⟨M, hM⟩ : ∃ M, M = A * 2 ^ k := ⟨_, rfl⟩
  rw [← hM] at hkq ⊢
  have HDH : Hid (∀ i, dig 4294967296 M (q + i) = dig 4294967296 (A * 2 ^ s) i) := fun i => by rw [hkq.out, dig_shift_hi (by omega)]
  have HDL : Hid (∀ j, j < q → dig 4294967296 M j = 0) := fun j hj => by rw [hkq.out, dig_shift_lo (by omega) _ _ _ hj]
  clear hM
  obtain ⟨HPOST, hpost⟩ : ∃ R, R = NumRet w M := ⟨_, rfl⟩
  rw [← hpost]
  have HP := Lib.hid hpost
  clear hpost
  have hmk : ∀ W : World, (Instr.makeSlice 58 (.int .i64 (q : Int)) (.int .i64 ((p : Int) + (q : Int) + 1))).run Try.prog W = .ok (.slice (some ⟨W.heap.size, 0, none⟩) q (p + q + 1)) (W.alloc (.cells (zrow (p + q + 1)) 47)) := fun W => make_nat2 q (p + q + 1) (by omega) (by omega) W
  go_enter Try.func71, Try.ntmps71
  go_wp2_with fail
  have hown0 : (w.alloc (.cells (zrow (p + q + 1)) 47)).owns w.heap.size 47 1 (.slice (some ⟨w.heap.size, 0, none⟩) q (p + q + 1)) q (((List.range q).map (dig 4294967296 M)).map u32V) := by
    have h := owns_zrow (l := q) (base := w.heap.size) (heap_alloc_new w (.cells (zrow (p + q + 1)) 47)) (Nat.le_refl _) (by omega) (by omega)
    rw [show (List.range q).map (dig 4294967296 M) = List.replicate q 0 by
      apply List.ext_getElem
      · simp
      · intro j h1 h2; simp; exact HDL.out j (by simpa using h1)]
    exact h
  have HO0 := Lib.hid hown0
  clear hown0
  go_loopw [5, 6, 20] (fun sv c iv wr => ∃ (i : Nat) (va : Option Addr) (vc : Nat), i ≤ p ∧ iv = .int .i64 (i : Int) ∧ sv = .slice va (q + i) vc ∧ c = .int .u64 (carryM 4294967296 A (2 ^ s) i : Int) ∧ Hid (wr.owns w.heap.size 47 1 (.slice va (q + i) vc) (q + i) (((List.range (q + i)).map (dig 4294967296 M)).map u32V)) ∧ Hid (Below w.heap.size w wr)) (fun _ _ iv _ => p - (intOf iv).toNat)
  case atStart => exact ⟨0, _, _, Nat.zero_le _, rfl, rfl, by rw [carryM_zero]; rfl, HO0.out, (Below.refl _ w).alloc (Nat.le_refl _) _⟩
  case round =>
    obtain ⟨i, va, vc, hi, rfl, rfl, rfl, hO, hB⟩ := hrel
    have hz := hB.out.size
    have hcl := carryM_lt (B := 4294967296) (by omega) A (2 ^ s) i (Nat.pow_pos (by omega))
    by_cases hlt : i < p
    · obtain ⟨b, off, rfl, hbl, hx0⟩ := HA.out i hlt
      have hx : wr.cell? ⟨b, off + i, none⟩ = some (.int .u32 (dig 4294967296 A i : Int)) := (hB.out.cell (p := ⟨b, off + i, none⟩) hbl).trans hx0
      have HST := Lib.hid (mul_step (B := 4294967296) (by omega) A (2 ^ s) i)
      have hd1 := wd_dig A i
      have hd3 := wd_dig (A * 2 ^ s) i
      obtain ⟨x, ex⟩ : ∃ x, x = dig 4294967296 A i := ⟨_, rfl⟩
      obtain ⟨z, ez⟩ : ∃ x, x = dig 4294967296 (A * 2 ^ s) i := ⟨_, rfl⟩
      obtain ⟨c, ec⟩ : ∃ x, x = carryM 4294967296 A (2 ^ s) i := ⟨_, rfl⟩
      obtain ⟨d, ed⟩ : ∃ x, x = carryM 4294967296 A (2 ^ s) (i + 1) := ⟨_, rfl⟩
      rw [← ex, ← ez, ← ec, ← ed] at HST
      rw [← ex] at hx hd1
      rw [← ez] at hd3
      rw [← ec] at hcl ⊢
      have EZ := Lib.hid ez
      have ED := Lib.hid ed
      obtain ⟨hor, hy64⟩ := or_shl c x s hs32 hcl hd1
      obtain ⟨y, ey⟩ : ∃ y, y = c + x * 2 ^ s := ⟨_, rfl⟩
      rw [← ey] at hor hy64
      have t1 : (y : Int) % 4294967296 = (z : Int) := by have := HST.out; omega
      have t2 : (y : Int) / 4294967296 = (d : Int) := by have := HST.out; omega
      clear ex ez ec ed hx0 ey
      go_wp2_with (at_builtin; refine app_u32 wr 58 Try.underlying58 rfl (.tmp 31) (.tmp 34) rfl w.heap.size (.slice va (q + i) vc) (q + i) _ rfl hO.out (z : Int) wr.heap.size rfl rfl (by omega) hz ?_; intro v5 w5 hown5 hg5 hz5; have HO5 := Lib.hid hown5; obtain ⟨g5, q5, rfl⟩ := hown5.succ; have HB5 := Lib.hid (hB.out.trans (below_grown hO.out hg5 w.heap.size (Nat.le_refl _) hz)); clear hown5 hg5)
      go_roundw
      case rel =>
        refine ⟨i + 1, _, q5, by omega, by go_num, rfl, by rw [← ED.out], ?_, HB5.out⟩
        show w5.owns _ _ _ _ _ _
        rw [← Nat.add_assoc, List.range_succ, List.map_append, List.map_append]
        show w5.owns _ _ _ _ _ (_ ++ [u32V (dig 4294967296 M (q + i))])
        rw [HDH.out, ← EZ.out]
        exact HO5.out
      case measure => simp [intOf]; omega
    · obtain rfl : i = p := by omega
      have hc32 : carryM 4294967296 A (2 ^ s) i < 4294967296 := Nat.lt_of_lt_of_le hcl (by rw [show (4294967296 : Nat) = 2 ^ 32 by rfl]; exact Nat.pow_le_pow_right (by omega) (by omega))
      obtain ⟨c, ec⟩ : ∃ x, x = carryM 4294967296 A (2 ^ s) i := ⟨_, rfl⟩
      have ecz : Hid (c = dig 4294967296 M (q + i)) := by
        show _ = _
        rw [HDH.out, ec]
        have h1 := mul_step (B := 4294967296) (by omega) A (2 ^ s) i
        have h2 : dig 4294967296 A i = 0 := dig_high (by omega) A i HVA.out
        have h3 : carryM 4294967296 A (2 ^ s) (i + 1) = 0 := by
          unfold carryM
          rw [Nat.div_eq_of_lt]
          have h4 := Nat.lt_of_le_of_lt (Nat.mod_le A (4294967296 ^ (i + 1))) HVA.out
          rw [Nat.pow_succ]
          refine Nat.mul_lt_mul'' h4 ?_
          rw [show (4294967296 : Nat) = 2 ^ 32 by rfl]; exact Nat.pow_lt_pow_right (by omega) (by omega)
        rw [h2, h3] at h1
        omega
      have HM : Hid (M < 4294967296 ^ (q + i + 1)) := by
        show _ < _
        have h1 : A * 2 ^ s < 4294967296 ^ i * 4294967296 := by
          refine Nat.mul_lt_mul'' HVA.out ?_
          rw [show (4294967296 : Nat) = 2 ^ 32 by rfl]; exact Nat.pow_lt_pow_right (by omega) (by omega)
        rw [hkq.out, show q + i + 1 = (i + 1) + q by omega, Nat.pow_add, Nat.pow_succ]
        exact (Nat.mul_lt_mul_right (Nat.pow_pos (by omega))).2 h1
      rw [← ec] at hc32 ⊢
      have t1 : (c : Int) % 4294967296 = (c : Int) := by omega
      clear ec hcl
      go_wp2_with (at_builtin; refine app_u32 wr 58 Try.underlying58 rfl (.tmp 39) (.tmp 42) rfl w.heap.size (.slice va (q + i) vc) (q + i) _ rfl hO.out (c : Int) wr.heap.size rfl rfl (by omega) hz ?_; intro v5 w5 hown5 hg5 hz5; have HO5 := Lib.hid hown5; have HB5 := Lib.hid (hB.out.trans (below_grown hO.out hg5 w.heap.size (Nat.le_refl _) hz)); clear hown5 hg5)
      have ho6 : w5.owns w.heap.size 47 1 v5 ((List.range (q + i + 1)).map (dig 4294967296 M)).length (((List.range (q + i + 1)).map (dig 4294967296 M)).map u32V) := by
        rw [List.length_map, List.length_range, List.range_succ, List.map_append, List.map_append]
        show w5.owns _ _ _ _ _ (_ ++ [u32V (dig 4294967296 M (q + i))])
        rw [← ecz.out]
        exact HO5.out
      have HO6 := Lib.hid ho6
      clear ho6
      (with_reducible refine (norm_own _ _ v5 w5 HO6.out (by simp; omega)).mono ?_)
      rintro e w6 ⟨⟨v6, rfl, hown6⟩, rfl⟩
      have HO7 := Lib.hid hown6
      clear hown6
      go_wp2
      rw [HP.out]
      exact num_own HO7.out HB5.out HM.out
end Go.Proofs.Ytdfklcmiagmgaaa
