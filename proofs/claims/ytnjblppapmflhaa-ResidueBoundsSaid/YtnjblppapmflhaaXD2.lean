/- Walks: a number shifted to the right by less than a word. -/
import Derived.Test.YtnjblppapmflhaaXD1
namespace Go.Proofs.Ytnjblppapmflhaa
set_option linter.all false
open Go.RowKit Go.Shelf Go.WideNum
theorem right_dig (A s i : Nat) (hs : s < 32) : (dig 4294967296 A i + dig 4294967296 A (i + 1) * 2 ^ 32) / 2 ^ s % 4294967296 = dig 4294967296 (A / 2 ^ s) i := by
  obtain ⟨d, hd⟩ : ∃ d, (4294967296 : Nat) = 2 ^ s * d := ⟨2 ^ (32 - s), by rw [← Nat.pow_add, show s + (32 - s) = 32 by omega]⟩
  have hp : 0 < 2 ^ s := Nat.pow_pos (by omega)
  unfold dig
  rw [Nat.pow_succ, ← Nat.div_div_eq_div_mul A, Nat.div_div_eq_div_mul A (2 ^ s), Nat.mul_comm (2 ^ s), ← Nat.div_div_eq_div_mul A]
  obtain ⟨Y, hY⟩ : ∃ Y, Y = A / 4294967296 ^ i := ⟨_, rfl⟩
  rw [← hY]
  have h1 := Nat.mod_add_div Y 4294967296
  have h2 := Nat.mod_add_div (Y / 4294967296) 4294967296
  obtain ⟨K, hK⟩ : ∃ K, K = Y / 4294967296 / 4294967296 := ⟨_, rfl⟩
  obtain ⟨Z, hZ⟩ : ∃ Z, Z = Y % 4294967296 + Y / 4294967296 % 4294967296 * 2 ^ 32 := ⟨_, rfl⟩
  have h3 : Y = Z + 2 ^ s * (d * 4294967296 * K) := by
    have e : 2 ^ s * (d * 4294967296 * K) = 4294967296 * 4294967296 * K := by
      rw [← Nat.mul_assoc, ← Nat.mul_assoc, ← hd]
    rw [e, hZ, hK]
    omega
  have h4 : Y / 2 ^ s = Z / 2 ^ s + d * 4294967296 * K := by
    rw [h3, Nat.add_mul_div_left _ _ hp]
  rw [h4, show d * 4294967296 * K = 4294967296 * (d * K) by rw [Nat.mul_comm d, Nat.mul_assoc], Nat.add_mul_mod_self_left, ← hZ]
set_option maxRecDepth 100000 in
set_option maxHeartbeats 4000000 in
theorem right_any (A s : Nat) (hs : s < 32) (va : Value) (w : World) (hA : World.numR w va A) (hla : (wd A).length ≤ 2000) :
    Calls Try.prog 111 #[va, .int .i64 (s : Int)] w (NumRet w (A / 2 ^ s)) := by
  obtain ⟨aa, ca, rfl, hca, hma, hsa⟩ := reads_u32 hA
  clear hA
  have hz0 := words_len0 (B := 4294967296) (by omega) A
  obtain ⟨p, hp⟩ : ∃ n, n = (wd A).length := ⟨_, rfl⟩
  have hva := wd_vlt A
  have hzp : p = 0 ↔ A = 0 := by rw [hp]; exact hz0
  rw [← hp] at hla hca hva ⊢
  have HA : Hid (∀ k, k < p → ∃ b off, aa = some ⟨b, off, none⟩ ∧ b < w.heap.size ∧ w.cell? ⟨b, off + k, none⟩ = some (.int .u32 (dig 4294967296 A k : Int))) := fun k hk => hsa k _ (wd_get _ k (by omega))
  have HHI : Hid (∀ k, p ≤ k → dig 4294967296 A k = 0) := fun k hk => wd_high A k (by omega)
  have HVA := Lib.hid hva
  have HZP := Lib.hid hzp
  clear hp hsa hva hz0 hzp
  obtain ⟨M, hM⟩ : ∃ M, M = A / 2 ^ s := ⟨_, rfl⟩
  rw [← hM]
  have HM := Lib.hid hM
  have HDG : Hid (∀ i, (dig 4294967296 A i + dig 4294967296 A (i + 1) * 2 ^ 32) / 2 ^ s % 4294967296 = dig 4294967296 M i) := fun i => by rw [HM.out]; exact right_dig A s i hs
  clear hM
  obtain ⟨HPOST, hpost⟩ : ∃ R, R = NumRet w M := ⟨_, rfl⟩
  rw [← hpost]
  have HP := Lib.hid hpost
  clear hpost
  have e1 : (s : Int) / 32 = 0 := by omega
  have e2 : (s : Int) % 32 = (s : Int) := by omega
  by_cases hp0 : p = 0
  · subst hp0
    have hA0 := HZP.out.1 rfl
    subst hA0
    have hM0 : M = 0 := by rw [HM.out]; exact Nat.zero_div _
    subst hM0
    go_enter Try.func111, Try.ntmps111
    go_wp2
    rw [HP.out]
    exact ⟨_, rfl, World.owns_nil _ _ _ _, Below.refl _ _⟩
  · have hp1 : ¬ (p : Int) ≤ 0 := by omega
    have hp2 : (0 : Int) < (p : Int) := by omega
    have hmk : ∀ W : World, (Instr.makeSlice 98 (.int .i64 (p : Int)) (.int .i64 (p : Int))).run Try.prog W = .ok (.slice (some ⟨W.heap.size, 0, none⟩) p p) (W.alloc (.cells (zrow p) 23)) := fun W => make_nat p (by omega) W
    clear HZP
    go_enter Try.func111, Try.ntmps111
    go_wp2_with fail
    go_loopw [22] (fun iv wr => ∃ k : Nat, k ≤ p ∧ iv = .int .i64 (k : Int) ∧ wr.heap[w.heap.size]? = some (.cells (fillTo (dig 4294967296 M) p k) 23) ∧ Below w.heap.size w wr) (fun iv _ => p - (intOf iv).toNat)
    case atStart => exact ⟨0, Nat.zero_le _, rfl, by rw [fillTo_zero]; exact heap_alloc_new w _, (Below.refl _ w).alloc (Nat.le_refl _) _⟩
    case round =>
      obtain ⟨k, hk, rfl, hgk, hb⟩ := hrel
      by_cases hlt : k < p
      · obtain ⟨b, off, rfl, hbl, hx0⟩ := HA.out k hlt
        have hx : wr.cell? ⟨b, off + k, none⟩ = some (.int .u32 (dig 4294967296 A k : Int)) := (hb.cell (p := ⟨b, off + k, none⟩) hbl).trans hx0
        obtain ⟨u, hcu, hfu⟩ := fill_cell hgk (by omega)
        have hdg := HDG.out k
        have hd1 := wd_dig A k
        have hd2 := wd_dig A (k + 1)
        have hd3 := wd_dig M k
        obtain ⟨x, ex⟩ : ∃ x, x = dig 4294967296 A k := ⟨_, rfl⟩
        obtain ⟨y, ey⟩ : ∃ x, x = dig 4294967296 A (k + 1) := ⟨_, rfl⟩
        obtain ⟨z, ez⟩ : ∃ x, x = dig 4294967296 M k := ⟨_, rfl⟩
        rw [← ex, ← ey, ← ez] at hdg
        rw [← ex] at hx hd1
        rw [← ey] at hd2
        rw [← ez] at hd3
        have EY := Lib.hid ey
        have EZ := Lib.hid ez
        have HGK := Lib.hid hgk
        clear ex hx0 hgk
        have hp2s : 0 < 2 ^ s := Nat.pow_pos (by omega)
        by_cases hk1 : k + 1 < p
        · obtain ⟨b2, off2, hb2, hbl2, hy0⟩ := HA.out (k + 1) hk1
          injection hb2 with hb2
          injection hb2 with hb2 hb3
          subst hb2 hb3
          have hy : wr.cell? ⟨b, off + (k + 1), none⟩ = some (.int .u32 (y : Int)) := (hb.cell (p := ⟨b, off + (k + 1), none⟩) hbl2).trans (by rw [hy0, EY.out])
          have hor := or_hi .u64 (Or.inl rfl) 32 y x hd1 (by simp only [if_true]; omega)
          obtain ⟨Y, eY⟩ : ∃ Y, Y = x + y * 2 ^ 32 := ⟨_, rfl⟩
          rw [← eY] at hor hdg
          have hor2 : bits .or .u64 (x : Int) ((y : Int) * 4294967296) = (Y : Int) := by rw [← hor]; congr 1
          have hY : Y < 18446744073709551616 := by rw [eY]; omega
          have t1 : (Y : Int) / 2 ^ s % 4294967296 = (z : Int) := by rw [← hdg]; simp
          have hk1' : (k : Int) + 1 < (p : Int) := by omega
          clear hor ey ez eY hy0 hdg
          go_wp2
          go_roundw
          case rel => exact ⟨k + 1, by omega, by go_num, by rw [EZ.out]; exact fill_set HGK.out, hb.setCell (by simp) _⟩
          case measure => simp [intOf]; omega
        · have hy0 : y = 0 := by rw [EY.out]; exact HHI.out (k + 1) (by omega)
          rw [hy0, Nat.zero_mul, Nat.add_zero] at hdg
          have t1 : (x : Int) / 2 ^ s % 4294967296 = (z : Int) := by rw [← hdg]; simp
          have hk1' : ¬ (k : Int) + 1 < (p : Int) := by omega
          clear ey ez hy0 hdg
          go_wp2
          go_roundw
          case rel => exact ⟨k + 1, by omega, by go_num, by rw [EZ.out]; exact fill_set HGK.out, hb.setCell (by simp) _⟩
          case measure => simp [intOf]; omega
      · obtain rfl : k = p := by omega
        obtain ⟨R, HR⟩ : ∃ R, Hid (R = (trimL ((List.range k).map (dig 4294967296 M))).length) := ⟨_, rfl⟩
        have HGK := Lib.hid hgk
        clear hgk
        go_wp2_with fail
        (with_reducible refine (norm_row _ _ _ R HR _ _ HGK.out (by omega)).mono ?_)
        rintro e w2 ⟨rfl, rfl⟩
        go_wp2
        rw [HP.out]
        exact num_ret HR HGK.out hb (Nat.le_refl _) (by omega) (Nat.lt_of_le_of_lt (by rw [HM.out]; exact Nat.div_le_self _ _) HVA.out)
end Go.Proofs.Ytnjblppapmflhaa
