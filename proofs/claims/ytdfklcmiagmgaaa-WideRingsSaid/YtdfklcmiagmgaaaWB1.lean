/- Walks: the sum of two numbers. -/
import Derived.Test.YtdfklcmiagmgaaaWF1
namespace Go.Proofs.Ytdfklcmiagmgaaa
set_option linter.all false
open Go.RowKit Go.Shelf Go.WideNum
set_option maxRecDepth 100000 in
set_option maxHeartbeats 4000000 in
theorem plus_any (A C : Nat) (va vb : Value) (w : World) (hA : w.reads w.heap.size va ((wd A).map u32V)) (hC : w.reads w.heap.size vb ((wd C).map u32V))
    (hla : (wd A).length ≤ 2000) (hlc : (wd C).length ≤ 2000) :
    Calls Try.prog 50 #[va, vb] w (NumRet w (A + C)) := by
  obtain ⟨aa, ca, rfl, hca, hma, hsa⟩ := reads_u32 hA
  obtain ⟨ab, cb, rfl, hcb, hmb, hsb⟩ := reads_u32 hC
  clear hA hC
  obtain ⟨p, hp⟩ : ∃ n, n = (wd A).length := ⟨_, rfl⟩
  obtain ⟨q, hq⟩ : ∃ n, n = (wd C).length := ⟨_, rfl⟩
  have hva := wd_vlt A
  have hvc := wd_vlt C
  rw [← hp] at hla hca hva ⊢
  rw [← hq] at hlc hcb hvc ⊢
  have HA : Hid (∀ k, k < p → ∃ b off, aa = some ⟨b, off, none⟩ ∧ b < w.heap.size ∧ w.cell? ⟨b, off + k, none⟩ = some (.int .u32 (dig 4294967296 A k : Int))) := fun k hk => hsa k _ (wd_get A k (by omega))
  have HC : Hid (∀ k, k < q → ∃ b off, ab = some ⟨b, off, none⟩ ∧ b < w.heap.size ∧ w.cell? ⟨b, off + k, none⟩ = some (.int .u32 (dig 4294967296 C k : Int))) := fun k hk => hsb k _ (wd_get C k (by omega))
  have HZA : Hid (∀ k, p ≤ k → dig 4294967296 A k = 0) := fun k hk => wd_high A k (by omega)
  have HZC : Hid (∀ k, q ≤ k → dig 4294967296 C k = 0) := fun k hk => wd_high C k (by omega)
  have HVA := Lib.hid hva
  have HVC := Lib.hid hvc
  clear hp hq hsa hsb hva hvc
  obtain ⟨HPOST, hpost⟩ : ∃ R, R = NumRet w (A + C) := ⟨_, rfl⟩
  rw [← hpost]
  have HP := Lib.hid hpost
  clear hpost
  rcases Nat.lt_or_ge p q with hlt0 | hge
  · have hge' : (p : Int) < (q : Int) := by omega
    have hge := Nat.le_of_lt hlt0
    have hmk : ∀ W : World, (Instr.makeSlice 58 (.int .i64 ((q : Int) + 1)) (.int .i64 ((q : Int) + 1))).run Try.prog W = .ok (.slice (some ⟨W.heap.size, 0, none⟩) (q + 1) (q + 1)) (W.alloc (.cells (zrow (q + 1)) 47)) := fun W => make_nat (q + 1) (by omega) W
    go_enter Try.func50, Try.ntmps50
    go_wp2_with fail
    go_loopw [6, 21] (fun c iv wr => ∃ k : Nat, k ≤ q ∧ iv = .int .i64 (k : Int) ∧ c = .int .u64 (carry 4294967296 C A k : Int) ∧ wr.heap[w.heap.size]? = some (.cells (fillTo (dig 4294967296 (C + A)) (q + 1) k) 47) ∧ Below w.heap.size w wr) (fun _ iv _ => q - (intOf iv).toNat)
    case atStart => exact ⟨0, Nat.zero_le _, rfl, by rw [carry_zero]; rfl, by rw [fillTo_zero]; exact heap_alloc_new w _, (Below.refl _ w).alloc (Nat.le_refl _) _⟩
    case round =>
      obtain ⟨k, hk, rfl, rfl, hgk, hb⟩ := hrel
      by_cases hlt : k < q
      · obtain ⟨b, off, rfl, hbl, hx0⟩ := HC.out k hlt
        have hx : wr.cell? ⟨b, off + k, none⟩ = some (.int .u32 (dig 4294967296 C k : Int)) := (hb.cell (p := ⟨b, off + k, none⟩) hbl).trans hx0
        obtain ⟨u, hcu, hfu⟩ := fill_cell hgk (by omega)
        have HST := Lib.hid (add_step (B := 4294967296) (by omega) C A k)
        have hd1 := wd_dig C k
        have hd2 := wd_dig A k
        have hd3 := wd_dig (C + A) k
        have hc1 := carry_le (B := 4294967296) (by omega) C A k
        have hc2 := carry_le (B := 4294967296) (by omega) C A (k + 1)
        obtain ⟨x, ex⟩ : ∃ x, x = dig 4294967296 C k := ⟨_, rfl⟩
        obtain ⟨y, ey⟩ : ∃ x, x = dig 4294967296 A k := ⟨_, rfl⟩
        obtain ⟨z, ez⟩ : ∃ x, x = dig 4294967296 (C + A) k := ⟨_, rfl⟩
        obtain ⟨c, ec⟩ : ∃ x, x = carry 4294967296 C A k := ⟨_, rfl⟩
        obtain ⟨d, ed⟩ : ∃ x, x = carry 4294967296 C A (k + 1) := ⟨_, rfl⟩
        rw [← ex, ← ey, ← ez, ← ec, ← ed] at HST
        rw [← ex] at hx hd1
        rw [← ey] at hd2
        rw [← ez] at hd3
        rw [← ec] at hc1 ⊢
        rw [← ed] at hc2
        have EX := Lib.hid ex
        have EY := Lib.hid ey
        have EZ := Lib.hid ez
        have ED := Lib.hid ed
        have HGK := Lib.hid hgk
        clear ex ey ez ec ed hx0 hgk
        by_cases hkq : k < p
        · obtain ⟨b2, off2, rfl, hbl2, hy0⟩ := HA.out k hkq
          have hy : wr.cell? ⟨b2, off2 + k, none⟩ = some (.int .u32 (y : Int)) := (hb.cell (p := ⟨b2, off2 + k, none⟩) hbl2).trans (by rw [hy0, EY.out])
          have hkq' : (k : Int) < (p : Int) := by omega
          have t1 : ((c : Int) + (x : Int) + (y : Int)) % 4294967296 = (z : Int) := by have := HST.out; omega
          have t2 : ((c : Int) + (x : Int) + (y : Int)) / 4294967296 = (d : Int) := by have := HST.out; omega
          clear hy0
          go_wp2_with fail
          go_roundw
          case rel => exact ⟨k + 1, by omega, by go_num, by rw [ED.out], by rw [EZ.out]; exact fill_set HGK.out, hb.setCell (by simp) _⟩
          case measure => simp [intOf]; omega
        · have hkq' : ¬ (k : Int) < (p : Int) := by omega
          have hy0 : y = 0 := by rw [EY.out]; exact HZA.out k (by omega)
          have t1 : ((c : Int) + (x : Int)) % 4294967296 = (z : Int) := by have := HST.out; omega
          have t2 : ((c : Int) + (x : Int)) / 4294967296 = (d : Int) := by have := HST.out; omega
          clear hy0
          go_wp2_with fail
          go_roundw
          case rel => exact ⟨k + 1, by omega, by go_num, by rw [ED.out], by rw [EZ.out]; exact fill_set HGK.out, hb.setCell (by simp) _⟩
          case measure => simp [intOf]; omega
      · obtain rfl : k = q := by omega
        obtain ⟨u, hcu, hfu⟩ := fill_cell hgk (Nat.lt_succ_self k)
        have HGK := Lib.hid hgk
        have hc1 := carry_le (B := 4294967296) (by omega) C A k
        have HZ : Hid (carry 4294967296 C A k = dig 4294967296 (C + A) k) := carry_last (by omega) C A k HVC.out (Nat.lt_of_lt_of_le HVA.out (Nat.pow_le_pow_right (by omega) hge))
        have t1 : (carry 4294967296 C A k : Int) % 4294967296 = (carry 4294967296 C A k : Int) := by omega
        have HAC : Hid (C + A < 4294967296 ^ (k + 1)) := by
          have h1 := HVC.out
          have h2 := Nat.lt_of_lt_of_le HVA.out (Nat.pow_le_pow_right (show 0 < 4294967296 by omega) hge)
          show _ < _
          rw [Nat.pow_succ]
          omega
        clear hgk
        go_wp2_with fail
        have hg2 := fill_set HGK.out
        rw [← HZ.out] at hg2
        have hb2 : Below w.heap.size w (wr.setCell ⟨w.heap.size, k, none⟩ (.int .u32 (carry 4294967296 C A k : Int))) := hb.setCell (by simp) _
        clear t1
        obtain ⟨R, HR⟩ : ∃ R, Hid (R = (trimL ((List.range (k + 1)).map (dig 4294967296 (C + A)))).length) := ⟨_, rfl⟩
        (with_reducible refine (norm_row _ _ _ R HR _ _ hg2 (by omega)).mono ?_)
        rintro e w2 ⟨rfl, rfl⟩
        go_wp2
        rw [HP.out, Nat.add_comm]
        exact num_ret HR hg2 hb2 (Nat.le_refl _) (by omega) HAC.out
  · have hge' : ¬ (p : Int) < (q : Int) := by omega
    have hmk : ∀ W : World, (Instr.makeSlice 58 (.int .i64 ((p : Int) + 1)) (.int .i64 ((p : Int) + 1))).run Try.prog W = .ok (.slice (some ⟨W.heap.size, 0, none⟩) (p + 1) (p + 1)) (W.alloc (.cells (zrow (p + 1)) 47)) := fun W => make_nat (p + 1) (by omega) W
    go_enter Try.func50, Try.ntmps50
    go_wp2_with fail
    go_loopw [6, 21] (fun c iv wr => ∃ k : Nat, k ≤ p ∧ iv = .int .i64 (k : Int) ∧ c = .int .u64 (carry 4294967296 A C k : Int) ∧ wr.heap[w.heap.size]? = some (.cells (fillTo (dig 4294967296 (A + C)) (p + 1) k) 47) ∧ Below w.heap.size w wr) (fun _ iv _ => p - (intOf iv).toNat)
    case atStart => exact ⟨0, Nat.zero_le _, rfl, by rw [carry_zero]; rfl, by rw [fillTo_zero]; exact heap_alloc_new w _, (Below.refl _ w).alloc (Nat.le_refl _) _⟩
    case round =>
      obtain ⟨k, hk, rfl, rfl, hgk, hb⟩ := hrel
      by_cases hlt : k < p
      · obtain ⟨b, off, rfl, hbl, hx0⟩ := HA.out k hlt
        have hx : wr.cell? ⟨b, off + k, none⟩ = some (.int .u32 (dig 4294967296 A k : Int)) := (hb.cell (p := ⟨b, off + k, none⟩) hbl).trans hx0
        obtain ⟨u, hcu, hfu⟩ := fill_cell hgk (by omega)
        have HST := Lib.hid (add_step (B := 4294967296) (by omega) A C k)
        have hd1 := wd_dig A k
        have hd2 := wd_dig C k
        have hd3 := wd_dig (A + C) k
        have hc1 := carry_le (B := 4294967296) (by omega) A C k
        have hc2 := carry_le (B := 4294967296) (by omega) A C (k + 1)
        obtain ⟨x, ex⟩ : ∃ x, x = dig 4294967296 A k := ⟨_, rfl⟩
        obtain ⟨y, ey⟩ : ∃ x, x = dig 4294967296 C k := ⟨_, rfl⟩
        obtain ⟨z, ez⟩ : ∃ x, x = dig 4294967296 (A + C) k := ⟨_, rfl⟩
        obtain ⟨c, ec⟩ : ∃ x, x = carry 4294967296 A C k := ⟨_, rfl⟩
        obtain ⟨d, ed⟩ : ∃ x, x = carry 4294967296 A C (k + 1) := ⟨_, rfl⟩
        rw [← ex, ← ey, ← ez, ← ec, ← ed] at HST
        rw [← ex] at hx hd1
        rw [← ey] at hd2
        rw [← ez] at hd3
        rw [← ec] at hc1 ⊢
        rw [← ed] at hc2
        have EX := Lib.hid ex
        have EY := Lib.hid ey
        have EZ := Lib.hid ez
        have ED := Lib.hid ed
        have HGK := Lib.hid hgk
        clear ex ey ez ec ed hx0 hgk
        by_cases hkq : k < q
        · obtain ⟨b2, off2, rfl, hbl2, hy0⟩ := HC.out k hkq
          have hy : wr.cell? ⟨b2, off2 + k, none⟩ = some (.int .u32 (y : Int)) := (hb.cell (p := ⟨b2, off2 + k, none⟩) hbl2).trans (by rw [hy0, EY.out])
          have hkq' : (k : Int) < (q : Int) := by omega
          have t1 : ((c : Int) + (x : Int) + (y : Int)) % 4294967296 = (z : Int) := by have := HST.out; omega
          have t2 : ((c : Int) + (x : Int) + (y : Int)) / 4294967296 = (d : Int) := by have := HST.out; omega
          clear hy0
          go_wp2_with fail
          go_roundw
          case rel => exact ⟨k + 1, by omega, by go_num, by rw [ED.out], by rw [EZ.out]; exact fill_set HGK.out, hb.setCell (by simp) _⟩
          case measure => simp [intOf]; omega
        · have hkq' : ¬ (k : Int) < (q : Int) := by omega
          have hy0 : y = 0 := by rw [EY.out]; exact HZC.out k (by omega)
          have t1 : ((c : Int) + (x : Int)) % 4294967296 = (z : Int) := by have := HST.out; omega
          have t2 : ((c : Int) + (x : Int)) / 4294967296 = (d : Int) := by have := HST.out; omega
          clear hy0
          go_wp2_with fail
          go_roundw
          case rel => exact ⟨k + 1, by omega, by go_num, by rw [ED.out], by rw [EZ.out]; exact fill_set HGK.out, hb.setCell (by simp) _⟩
          case measure => simp [intOf]; omega
      · obtain rfl : k = p := by omega
        obtain ⟨u, hcu, hfu⟩ := fill_cell hgk (Nat.lt_succ_self k)
        have HGK := Lib.hid hgk
        have hc1 := carry_le (B := 4294967296) (by omega) A C k
        have HZ : Hid (carry 4294967296 A C k = dig 4294967296 (A + C) k) := carry_last (by omega) A C k HVA.out (Nat.lt_of_lt_of_le HVC.out (Nat.pow_le_pow_right (by omega) hge))
        have t1 : (carry 4294967296 A C k : Int) % 4294967296 = (carry 4294967296 A C k : Int) := by omega
        have HAC : Hid (A + C < 4294967296 ^ (k + 1)) := by
          have h1 := HVA.out
          have h2 := Nat.lt_of_lt_of_le HVC.out (Nat.pow_le_pow_right (show 0 < 4294967296 by omega) hge)
          show _ < _
          rw [Nat.pow_succ]
          omega
        clear hgk
        go_wp2_with fail
        have hg2 := fill_set HGK.out
        rw [← HZ.out] at hg2
        have hb2 : Below w.heap.size w (wr.setCell ⟨w.heap.size, k, none⟩ (.int .u32 (carry 4294967296 A C k : Int))) := hb.setCell (by simp) _
        clear t1
        obtain ⟨R, HR⟩ : ∃ R, Hid (R = (trimL ((List.range (k + 1)).map (dig 4294967296 (A + C)))).length) := ⟨_, rfl⟩
        (with_reducible refine (norm_row _ _ _ R HR _ _ hg2 (by omega)).mono ?_)
        rintro e w2 ⟨rfl, rfl⟩
        go_wp2
        rw [HP.out]
        exact num_ret HR hg2 hb2 (Nat.le_refl _) (by omega) HAC.out
end Go.Proofs.Ytdfklcmiagmgaaa
