/- Walks: a number divided by a word. -/
import Derived.Test.YtdfklcmiagmgaaaWF2
namespace Go.Proofs.Ytdfklcmiagmgaaa
set_option linter.all false
open Go.RowKit Go.Shelf Go.WideNum
def ShortRet (w : World) (A n : Nat) (e : Ending) (w' : World) : Prop := ∃ v, e = .returned (.tuple #[v, .int .u32 ((A % n : Nat) : Int)]) ∧ NumRet w (A / n) (.returned v) w'
set_option maxRecDepth 100000 in
set_option maxHeartbeats 4000000 in
theorem short_any (A n : Nat) (hn0 : 0 < n) (hn : n < 4294967296) (va : Value) (w : World) (hA : w.reads w.heap.size va ((wd A).map u32V)) (hla : (wd A).length ≤ 2000) :
    Calls Try.prog 59 #[va, .int .u32 (n : Int)] w (ShortRet w A n) := by
  obtain ⟨aa, ca, rfl, hca, hma, hsa⟩ := reads_u32 hA
  clear hA
  obtain ⟨p, hp⟩ : ∃ n, n = (wd A).length := ⟨_, rfl⟩
  have hva := wd_vlt A
  rw [← hp] at hla hca hva ⊢
  have HA : Hid (∀ k, k < p → ∃ b off, aa = some ⟨b, off, none⟩ ∧ b < w.heap.size ∧ w.cell? ⟨b, off + k, none⟩ = some (.int .u32 (dig 4294967296 A k : Int))) := fun k hk => hsa k _ (wd_get _ k (by omega))
  have HVA := Lib.hid hva
  clear hp hsa hva
  obtain ⟨HPOST, hpost⟩ : ∃ R, R = ShortRet w A n := ⟨_, rfl⟩
  rw [← hpost]
  have HP := Lib.hid hpost
  clear hpost
  have hmk : ∀ W : World, (Instr.makeSlice 58 (.int .i64 (p : Int)) (.int .i64 (p : Int))).run Try.prog W = .ok (.slice (some ⟨W.heap.size, 0, none⟩) p p) (W.alloc (.cells (zrow p) 47)) := fun W => make_nat p (by omega) W
  go_enter Try.func59, Try.ntmps59
  go_wp2_with fail
  go_loopw [7, 8] (fun c iv wr => ∃ k : Nat, k ≤ p ∧ iv = .int .i64 ((k : Int) - 1) ∧ c = .int .u64 ((A / 4294967296 ^ k % n : Nat) : Int) ∧ wr.heap[w.heap.size]? = some (.cells (rowF (fun j => if k ≤ j then dig 4294967296 (A / n) j else 0) p) 47) ∧ Below w.heap.size w wr) (fun _ iv _ => (intOf iv + 1).toNat)
  case atStart => exact ⟨p, Nat.le_refl _, rfl, by rw [Nat.div_eq_of_lt HVA.out, Nat.zero_mod]; rfl, by rw [rowF_congr (f' := fun _ => 0) (fun j hj => if_neg (by omega)), rowF_zero]; exact heap_alloc_new w _, (Below.refl _ w).alloc (Nat.le_refl _) _⟩
  case round =>
    obtain ⟨k, hk, rfl, rfl, hgk, hb⟩ := hrel
    cases k with
    | zero =>
      rw [rowF_congr (f' := dig 4294967296 (A / n)) (fun j hj => if_pos (Nat.zero_le j))] at hgk
      rw [Nat.pow_zero, Nat.div_one]
      obtain ⟨R, HR⟩ : ∃ R, Hid (R = (trimL ((List.range p).map (dig 4294967296 (A / n)))).length) := ⟨_, rfl⟩
      have HGK := Lib.hid hgk
      have hr := Nat.mod_lt A hn0
      obtain ⟨r, er⟩ : ∃ r, r = A % n := ⟨_, rfl⟩
      rw [← er] at hr ⊢
      have ER := Lib.hid er
      have hm : (r : Int) % 4294967296 = (r : Int) := by omega
      clear hgk er
      have h0 : ¬ (0 : Int) ≤ ((0 : Nat) : Int) - 1 := by omega
      go_wp2_with fail
      (with_reducible refine (norm_rowF _ _ _ R HR _ _ HGK.out (by omega)).mono ?_)
      rintro e w2 ⟨rfl, rfl⟩
      go_wp2
      rw [HP.out]
      rw [ER.out]
      exact ⟨_, rfl, num_retF HR HGK.out hb (Nat.le_refl _) (by omega) (Nat.lt_of_le_of_lt (Nat.div_le_self A n) HVA.out)⟩
    | succ j =>
      rw [show ((j + 1 : Nat) : Int) - 1 = (j : Int) by omega]
      obtain ⟨b, off, rfl, hbl, hx0⟩ := HA.out j (by omega)
      have hx : wr.cell? ⟨b, off + j, none⟩ = some (.int .u32 (dig 4294967296 A j : Int)) := (hb.cell (p := ⟨b, off + j, none⟩) hbl).trans hx0
      obtain ⟨hcu, hfu⟩ := rowF_cell hgk j (by omega)
      have HST := Lib.hid (short_step (B := 4294967296) (by omega) hn0 A j)
      have hd1 := wd_dig A j
      have hr := Nat.mod_lt (A / 4294967296 ^ (j + 1)) hn0
      obtain ⟨x, ex⟩ : ∃ x, x = dig 4294967296 A j := ⟨_, rfl⟩
      obtain ⟨r, er⟩ : ∃ x, x = A / 4294967296 ^ (j + 1) % n := ⟨_, rfl⟩
      rw [← ex, ← er] at HST
      rw [← ex] at hx hd1
      rw [← er] at hr ⊢
      have HOR := or_lo .u64 (Or.inl rfl) 32 r x hd1 (by simp only [if_true]; omega)
      obtain ⟨y, ey⟩ : ∃ y, y = r * 4294967296 + x := ⟨_, rfl⟩
      rw [show r * 2 ^ 32 + x = y by rw [ey]] at HOR
      have HQ : Hid (y / n = dig 4294967296 (A / n) j) := by show _ = _; rw [ey]; exact HST.out.1
      have HR2 : Hid (y % n = A / 4294967296 ^ j % n) := by show _ = _; rw [ey]; exact HST.out.2
      have hq2 : y / n < 4294967296 := by rw [HQ.out]; exact wd_dig _ _
      have hor : bits .or .u64 ((r : Int) * 4294967296) (x : Int) = (y : Int) := by rw [← HOR]; congr 1
      have hy : y < 18446744073709551616 := by rw [ey]; omega
      have HGK := Lib.hid hgk
      have HN := Lib.hid hn0
      have hne : ((n : Int) == 0) = false := by rw [beq_eq_false_iff_ne]; omega
      obtain ⟨z, ez⟩ : ∃ z, z = y / n := ⟨_, rfl⟩
      obtain ⟨m, em⟩ : ∃ m, m = y % n := ⟨_, rfl⟩
      have t1 : IntKind.u64.wrap ((y : Int) / (n : Int)) % 4294967296 = (z : Int) := by
        rw [← Int.natCast_ediv, ← ez, IntKind.wrap_u64]
        rw [← ez] at hq2
        omega
      have t2 : (y : Int) % (n : Int) = (m : Int) := by rw [em, Int.natCast_emod]
      rw [← ez] at HQ
      rw [← em] at HR2
      clear ex er ey hx0 hgk HOR ez em hq2
      go_wp2_with fail
      go_roundw
      case rel => exact ⟨j, by omega, rfl, by rw [t2, HR2.out], by
        rw [show z = (fun i => if j ≤ i then dig 4294967296 (A / n) i else 0) j by rw [HQ.out]; exact (if_pos (Nat.le_refl j)).symm]
        refine rowF_set (f' := fun i => if j ≤ i then dig 4294967296 (A / n) i else 0) HGK.out (fun i _ hi => ?_)
        show (if j + 1 ≤ i then _ else _) = (if j ≤ i then _ else _)
        by_cases h : j ≤ i
        · rw [if_pos h, if_pos (by omega)]
        · rw [if_neg h, if_neg (by omega)], hb.setCell (by simp) _⟩
      case measure => simp [intOf]
end Go.Proofs.Ytdfklcmiagmgaaa
