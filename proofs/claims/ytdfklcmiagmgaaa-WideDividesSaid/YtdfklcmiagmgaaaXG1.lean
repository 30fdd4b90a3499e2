/- The reference: an absolute value divided by a number below 2^16. -/
import Derived.Test.YtdfklcmiagmgaaaXR9
namespace Go.Proofs.Ytdfklcmiagmgaaa
set_option linter.all false
open Go.RowKit Go.Shelf Go.WideNum
def ShortRetH (w : World) (A n : Nat) (e : Ending) (w' : World) : Prop := ∃ v, e = .returned (.tuple #[v, .int .u32 ((A % n : Nat) : Int)]) ∧ World.rawH w' v (A / n) (hw A).length ∧ Below w.heap.size w w'
theorem rowF_raw {w W : World} {g n p : Nat} {T : TypeId} (hg : W.heap[g]? = some (.cells (rowF (dig 65536 n) p) T)) (hp : p ≤ 100000) : World.rawH W (.slice (some ⟨g, 0, none⟩) p p) n p := by
  have := reads_block (B := W.heap.size) (l := ((List.range p).map (dig 65536 n)).map u32V) hg (lt_of_heap hg) p (by simp) (by unfold maxLen; omega)
  rw [List.length_map, List.length_map, List.length_range] at this
  exact this
set_option maxRecDepth 100000 in
set_option maxHeartbeats 4000000 in
theorem hshort_any (A n : Nat) (hn0 : 0 < n) (hn : n < 65536) (va : Value) (w : World) (hA : World.numH w va A) (hla : (hw A).length ≤ 4000) :
    Calls Try.prog 61 #[va, .int .u32 (n : Int)] w (ShortRetH w A n) := by
  obtain ⟨aa, p, ca, hp, rfl, hca, hma, hsa⟩ := numH_words hA
  clear hA
  have hva := hw_vlt A
  rw [← hp] at hla hva
  have HA := Lib.hid hsa
  have HVA := Lib.hid hva
  obtain ⟨HPOST, hpost⟩ : ∃ R, R = ShortRetH w A n := ⟨_, rfl⟩
  rw [← hpost]
  have HP := Lib.hid hpost
  have HPL := Lib.hid hp
  clear hp hsa hva hpost
  have hmk : ∀ W : World, (Instr.makeSlice 57 (.int .i64 (p : Int)) (.int .i64 (p : Int))).run Try.prog W = .ok (.slice (some ⟨W.heap.size, 0, none⟩) p p) (W.alloc (.cells (zrow p) 47)) := fun W => make_u32 p (by omega) W
  have hpI : (p : Int) ≤ 4000 := by omega
  go_enter Try.func61, Try.ntmps61
  go_wp2_with fail
  go_loopw [7, 8] (fun c iv wr => ∃ k : Nat, k ≤ p ∧ iv = .int .i64 ((k : Int) - 1) ∧ c = .int .u32 ((A / 65536 ^ k % n : Nat) : Int) ∧ wr.heap[w.heap.size]? = some (.cells (rowF (fun j => if k ≤ j then dig 65536 (A / n) j else 0) p) 47) ∧ Below w.heap.size w wr) (fun _ iv _ => (intOf iv + 1).toNat)
  case atStart => exact ⟨p, Nat.le_refl _, rfl, by rw [Nat.div_eq_of_lt HVA.out, Nat.zero_mod]; rfl, by rw [rowF_congr (f' := fun _ => 0) (fun j hj => if_neg (by omega)), rowF_zero]; exact heap_alloc_new w _, (Below.refl _ w).alloc (Nat.le_refl _) _⟩
  case round =>
    obtain ⟨k, hk, rfl, rfl, hgk, hb⟩ := hrel
    cases k with
    | zero =>
      rw [rowF_congr (f' := dig 65536 (A / n)) (fun j hj => if_pos (Nat.zero_le j))] at hgk
      rw [Nat.pow_zero, Nat.div_one]
      have HGK := Lib.hid hgk
      obtain ⟨r, er⟩ : ∃ r, r = A % n := ⟨_, rfl⟩
      rw [← er]
      have ER := Lib.hid er
      clear hgk er
      have h0 : ¬ (0 : Int) ≤ ((0 : Nat) : Int) - 1 := by omega
      go_wp2
      rw [HP.out, ER.out]
      exact ⟨_, rfl, by rw [← HPL.out]; exact rowF_raw (w := w) HGK.out (by omega), hb⟩
    | succ j =>
      rw [show ((j + 1 : Nat) : Int) - 1 = (j : Int) by omega]
      obtain ⟨b, off, rfl, hbl, hx0⟩ := HA.out j (by omega)
      have hx : wr.cell? ⟨b, off + j, none⟩ = some (.int .u32 (dig 65536 A j : Int)) := (hb.cell (p := ⟨b, off + j, none⟩) hbl).trans hx0
      obtain ⟨hcu, hfu⟩ := rowF_cell hgk j (by omega)
      have HST := Lib.hid (short_step (B := 65536) (by omega) hn0 A j)
      have hd1 := hw_dig A j
      have hr := Nat.mod_lt (A / 65536 ^ (j + 1)) hn0
      obtain ⟨x, ex⟩ : ∃ x, x = dig 65536 A j := ⟨_, rfl⟩
      obtain ⟨r, er⟩ : ∃ x, x = A / 65536 ^ (j + 1) % n := ⟨_, rfl⟩
      rw [← ex, ← er] at HST
      rw [← ex] at hx hd1
      rw [← er] at hr ⊢
      obtain ⟨y, ey⟩ : ∃ y, y = r * 65536 + x := ⟨_, rfl⟩
      have HQ : Hid (y / n = dig 65536 (A / n) j) := by show _ = _; rw [ey]; exact HST.out.1
      have HR2 : Hid (y % n = A / 65536 ^ j % n) := by show _ = _; rw [ey]; exact HST.out.2
      have hq2 : y / n < 65536 := by rw [HQ.out]; exact hw_dig _ _
      have hy : y < 4294967296 := by rw [ey]; omega
      have u1 : IntKind.u32.wrap ((r : Int) * 65536) = ((r * 65536 : Nat) : Int) := by rw [IntKind.wrap_u32]; omega
      have u1' : IntKind.u32.wrap ((r : Int) * 2 ^ 16) = ((r * 65536 : Nat) : Int) := by rw [IntKind.wrap_u32]; omega
      have u2 : ((r * 65536 : Nat) : Int) + (x : Int) = (y : Int) := by omega
      have u3 : (r : Int) * 65536 + (x : Int) = (y : Int) := by omega
      have HGK := Lib.hid hgk
      have hne : ((n : Int) == 0) = false := by rw [beq_eq_false_iff_ne]; omega
      obtain ⟨z, ez⟩ : ∃ z, z = y / n := ⟨_, rfl⟩
      obtain ⟨m, em⟩ : ∃ m, m = y % n := ⟨_, rfl⟩
      rw [← ez] at HQ hq2
      rw [← em] at HR2
      have t1 : IntKind.u32.wrap ((y : Int) / (n : Int)) = (z : Int) := by
        rw [← Int.natCast_ediv, ← ez, IntKind.wrap_u32]
        omega
      have t1' : (y : Int) / (n : Int) = (z : Int) := by rw [← Int.natCast_ediv, ← ez]
      have t3 : (z : Int) % 4294967296 = (z : Int) := by omega
      have t2 : (y : Int) % (n : Int) = (m : Int) := by rw [em, Int.natCast_emod]
      clear ex er ey hx0 hgk ez em hq2
      go_wp2_with fail
      go_roundw
      case rel => exact ⟨j, by omega, rfl, by first | (rw [t2, HR2.out]; done) | rw [HR2.out], by
        rw [show z = (fun i => if j ≤ i then dig 65536 (A / n) i else 0) j by rw [HQ.out]; exact (if_pos (Nat.le_refl j)).symm]
        refine rowF_set (f' := fun i => if j ≤ i then dig 65536 (A / n) i else 0) HGK.out (fun i _ hi => ?_)
        show (if j + 1 ≤ i then _ else _) = (if j ≤ i then _ else _)
        by_cases h : j ≤ i
        · rw [if_pos h, if_pos (by omega)]
        · rw [if_neg h, if_neg (by omega)], hb.setCell (by simp) _⟩
      case measure => simp [intOf]
end Go.Proofs.Ytdfklcmiagmgaaa
