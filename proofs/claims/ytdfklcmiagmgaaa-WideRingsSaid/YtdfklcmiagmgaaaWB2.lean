/- Walks: the difference of two numbers. -/
import Derived.Test.YtdfklcmiagmgaaaWB1
namespace Go.Proofs.Ytdfklcmiagmgaaa
set_option linter.all false
open Go.RowKit Go.Shelf Go.WideNum
theorem wrap_sub2 (x c y z d : Nat) (h : x + 4294967296 * d = y + c + z) (hd : d ≤ 1) (hz : z < 4294967296) :
    ∃ T : Int, IntKind.u64.wrap (IntKind.u64.wrap ((x : Int) - (c : Int)) - (y : Int)) = T ∧ T % 4294967296 = (z : Int) ∧ T / 9223372036854775808 = (d : Int) := by
  refine ⟨_, rfl, ?_, ?_⟩ <;> rw [IntKind.wrap_u64, IntKind.wrap_u64] <;> rcases (show d = 0 ∨ d = 1 by omega) with rfl | rfl <;> omega
theorem wrap_sub1 (x c z d : Nat) (h : x + 4294967296 * d = c + z) (hd : d ≤ 1) (hz : z < 4294967296) :
    ∃ T : Int, IntKind.u64.wrap ((x : Int) - (c : Int)) = T ∧ T % 4294967296 = (z : Int) ∧ T / 9223372036854775808 = (d : Int) := by
  refine ⟨_, rfl, ?_, ?_⟩ <;> rw [IntKind.wrap_u64] <;> rcases (show d = 0 ∨ d = 1 by omega) with rfl | rfl <;> omega
set_option maxRecDepth 100000 in
set_option maxHeartbeats 4000000 in
theorem minus_any (A C : Nat) (hAC : C ≤ A) (va vb : Value) (w : World) (hA : w.reads w.heap.size va ((wd A).map u32V)) (hC : w.reads w.heap.size vb ((wd C).map u32V))
    (hla : (wd A).length ≤ 2000) (hlc : (wd C).length ≤ 2000) :
    Calls Try.prog 72 #[va, vb] w (NumRet w (A - C)) := by
  obtain ⟨aa, ca, rfl, hca, hma, hsa⟩ := reads_u32 hA
  obtain ⟨ab, cb, rfl, hcb, hmb, hsb⟩ := reads_u32 hC
  clear hA hC
  obtain ⟨D, rfl⟩ : ∃ D, A = C + D := ⟨A - C, by omega⟩
  rw [show C + D - C = D by omega]
  clear hAC
  obtain ⟨p, hp⟩ : ∃ n, n = (wd (C + D)).length := ⟨_, rfl⟩
  obtain ⟨q, hq⟩ : ∃ n, n = (wd C).length := ⟨_, rfl⟩
  have hva := wd_vlt (C + D)
  rw [← hp] at hla hca hva ⊢
  rw [← hq] at hlc hcb ⊢
  have HA : Hid (∀ k, k < p → ∃ b off, aa = some ⟨b, off, none⟩ ∧ b < w.heap.size ∧ w.cell? ⟨b, off + k, none⟩ = some (.int .u32 (dig 4294967296 (C + D) k : Int))) := fun k hk => hsa k _ (wd_get _ k (by omega))
  have HC : Hid (∀ k, k < q → ∃ b off, ab = some ⟨b, off, none⟩ ∧ b < w.heap.size ∧ w.cell? ⟨b, off + k, none⟩ = some (.int .u32 (dig 4294967296 C k : Int))) := fun k hk => hsb k _ (wd_get C k (by omega))
  have HZC : Hid (∀ k, q ≤ k → dig 4294967296 C k = 0) := fun k hk => wd_high C k (by omega)
  have HVA := Lib.hid hva
  clear hp hq hsa hsb hva
  obtain ⟨HPOST, hpost⟩ : ∃ R, R = NumRet w D := ⟨_, rfl⟩
  rw [← hpost]
  have HP := Lib.hid hpost
  clear hpost
  have hmk : ∀ W : World, (Instr.makeSlice 58 (.int .i64 (p : Int)) (.int .i64 (p : Int))).run Try.prog W = .ok (.slice (some ⟨W.heap.size, 0, none⟩) p p) (W.alloc (.cells (zrow p) 47)) := fun W => make_nat p (by omega) W
  go_enter Try.func72, Try.ntmps72
  go_wp2_with fail
  go_loopw [6, 14] (fun c iv wr => ∃ k : Nat, k ≤ p ∧ iv = .int .i64 (k : Int) ∧ c = .int .u64 (carry 4294967296 C D k : Int) ∧ wr.heap[w.heap.size]? = some (.cells (fillTo (dig 4294967296 D) p k) 47) ∧ Below w.heap.size w wr) (fun _ iv _ => p - (intOf iv).toNat)
  case atStart => exact ⟨0, Nat.zero_le _, rfl, by rw [carry_zero]; rfl, by rw [fillTo_zero]; exact heap_alloc_new w _, (Below.refl _ w).alloc (Nat.le_refl _) _⟩
  case round =>
    obtain ⟨k, hk, rfl, rfl, hgk, hb⟩ := hrel
    by_cases hlt : k < p
    · obtain ⟨b, off, rfl, hbl, hx0⟩ := HA.out k hlt
      have hx : wr.cell? ⟨b, off + k, none⟩ = some (.int .u32 (dig 4294967296 (C + D) k : Int)) := (hb.cell (p := ⟨b, off + k, none⟩) hbl).trans hx0
      obtain ⟨u, hcu, hfu⟩ := fill_cell hgk (by omega)
      have HST := Lib.hid (add_step (B := 4294967296) (by omega) C D k)
      have hd1 := wd_dig (C + D) k
      have hd2 := wd_dig C k
      have hd3 := wd_dig D k
      have hc1 := carry_le (B := 4294967296) (by omega) C D k
      have hc2 := carry_le (B := 4294967296) (by omega) C D (k + 1)
      obtain ⟨x, ex⟩ : ∃ x, x = dig 4294967296 (C + D) k := ⟨_, rfl⟩
      obtain ⟨y, ey⟩ : ∃ x, x = dig 4294967296 C k := ⟨_, rfl⟩
      obtain ⟨z, ez⟩ : ∃ x, x = dig 4294967296 D k := ⟨_, rfl⟩
      obtain ⟨c, ec⟩ : ∃ x, x = carry 4294967296 C D k := ⟨_, rfl⟩
      obtain ⟨d, ed⟩ : ∃ x, x = carry 4294967296 C D (k + 1) := ⟨_, rfl⟩
      rw [← ex, ← ey, ← ez, ← ec, ← ed] at HST
      rw [← ex] at hx hd1
      rw [← ey] at hd2
      rw [← ez] at hd3
      rw [← ec] at hc1 ⊢
      rw [← ed] at hc2
      have EY := Lib.hid ey
      have EZ := Lib.hid ez
      have ED := Lib.hid ed
      have HGK := Lib.hid hgk
      clear ex ey ez ec ed hx0 hgk
      by_cases hkq : k < q
      · obtain ⟨b2, off2, rfl, hbl2, hy0⟩ := HC.out k hkq
        have hy : wr.cell? ⟨b2, off2 + k, none⟩ = some (.int .u32 (y : Int)) := (hb.cell (p := ⟨b2, off2 + k, none⟩) hbl2).trans (by rw [hy0, EY.out])
        have hkq' : (k : Int) < (q : Int) := by omega
        obtain ⟨T, hT, hT1, hT2⟩ := wrap_sub2 x c y z d (by have := HST.out; omega) hc2 hd3
        clear hy0
        go_wp2_with fail
        go_roundw
        case rel => exact ⟨k + 1, by omega, by go_num, by rw [← ED.out], by rw [EZ.out]; exact fill_set HGK.out, hb.setCell (by simp) _⟩
        case measure => simp [intOf]; omega
      · have hkq' : ¬ (k : Int) < (q : Int) := by omega
        have hy0 : y = 0 := by rw [EY.out]; exact HZC.out k (by omega)
        obtain ⟨T, hT, hT1, hT2⟩ := wrap_sub1 x c z d (by have := HST.out; omega) hc2 hd3
        clear hy0
        go_wp2_with fail
        go_roundw
        case rel => exact ⟨k + 1, by omega, by go_num, by rw [← ED.out], by rw [EZ.out]; exact fill_set HGK.out, hb.setCell (by simp) _⟩
        case measure => simp [intOf]; omega
    · obtain rfl : k = p := by omega
      obtain ⟨R, HR⟩ : ∃ R, Hid (R = (trimL ((List.range k).map (dig 4294967296 D))).length) := ⟨_, rfl⟩
      have HGK := Lib.hid hgk
      clear hgk
      go_wp2_with fail
      (with_reducible refine (norm_row _ _ _ R HR _ _ HGK.out (by omega)).mono ?_)
      rintro e w2 ⟨rfl, rfl⟩
      go_wp2
      rw [HP.out]
      exact num_ret HR HGK.out hb (Nat.le_refl _) (by omega) (Nat.lt_of_le_of_lt (Nat.le_add_left D C) HVA.out)
end Go.Proofs.Ytdfklcmiagmgaaa
