/- Walks: a disk: which half is active; a record's bytes. -/
import Derived.Test.YtjfmcobikadjhaaDA2
namespace Go.Proofs.Ytjfmcobikadjhaa
set_option linter.all false
open Go.RowKit Go.Shelf
/-- A disk. -/
structure Dk where
  (size : Nat)
  (h0 h1 : List UInt8)
  (fuse : Int)
  (failed : Bool)
structure Dk.ok (d : Dk) : Prop where
  l0 : d.h0.length = d.size
  l1 : d.h1.length = d.size
  lo : 64 ≤ d.size
  hi : d.size ≤ 262144
  f1 : -1 ≤ d.fuse
  f2 : d.fuse ≤ 9223372036854775807
structure DiskAt (w : World) (p b0 b1 : Nat) (d : Dk) : Prop where
  at_ : w.heap[p]? = some (.cells #[.slice (some ⟨b0, 0, none⟩) d.size d.size, .slice (some ⟨b1, 0, none⟩) d.size d.size, .int .i64 d.fuse, .bool d.failed] 52)
  a0 : HalfAt w b0 d.h0
  a1 : HalfAt w b1 d.h1
  n01 : ¬ b0 = b1
  n0 : ¬ b0 = p
  n1 : ¬ b1 = p
theorem DiskAt.below {w w' : World} {p b0 b1 B : Nat} {d : Dk} (h : DiskAt w p b0 b1 d) (hb : Below B w w') (hp : p < B) (h0 : b0 < B) (h1 : b1 < B) : DiskAt w' p b0 b1 d :=
  ⟨(hb.block _ hp).trans h.at_, h.a0.below hb h0, h.a1.below hb h1, h.n01, h.n0, h.n1⟩
theorem DiskAt.kept {w w' : World} {p b0 b1 : Nat} {d : Dk} (h : DiskAt w p b0 b1 d) (hb : Below w.heap.size w w') : DiskAt w' p b0 b1 d :=
  h.below hb (lt_of_heap h.at_) h.a0.lt h.a1.lt
theorem DiskAt.drew {w : World} {p b0 b1 : Nat} {d : Dk} (h : DiskAt w p b0 b1 d) : DiskAt w.drew p b0 b1 d := ⟨h.at_, h.a0, h.a1, h.n01, h.n0, h.n1⟩
theorem four_cells {w : World} {b : Nat} {v0 v1 v2 v3 : Value} {t : TypeId} (h : w.heap[b]? = some (.cells #[v0, v1, v2, v3] t)) :
    w.cell? ⟨b, 0, none⟩ = some v0 ∧ w.cell? ⟨b, 1, none⟩ = some v1 ∧ w.cell? ⟨b, 2, none⟩ = some v2 ∧ w.cell? ⟨b, 3, none⟩ = some v3 ∧ w.frozen? ⟨b, 2, none⟩ = false ∧ w.frozen? ⟨b, 3, none⟩ = false := by
  simp [World.cell?, World.frozen?, h]
/-! ### none -/
set_option maxRecDepth 100000 in
theorem none_no (p b : Nat) (n c : Nat) (w : World) (h : w.cell? ⟨p, 0, none⟩ = some (.slice (some ⟨b, 0, none⟩) n c)) :
    Calls Try.prog 26 #[.pointer (some ⟨p, 0, none⟩)] w fun e w' => e = .returned (.bool false) ∧ w = w' := by
  have he : (binOp .eql 49 (.slice (some ⟨b, 0, none⟩) n c) (.slice none 0 0)).run Try.prog w = .ok (.bool false) w := by kernel_rfl
  go_enter Try.func26, Try.ntmps26
  go_wp2
  go_ret
  exact ⟨rfl, rfl⟩
set_option maxRecDepth 100000 in
theorem none_nil (w : World) : Calls Try.prog 26 #[.pointer none] w fun e w' => e = .returned (.bool true) ∧ w = w' := by
  go_enter Try.func26, Try.ntmps26
  go_wp2
  go_ret
  exact ⟨rfl, rfl⟩
set_option maxRecDepth 100000 in
theorem none_zero (p : Nat) (w : World) (h : w.cell? ⟨p, 0, none⟩ = some (.slice none 0 0)) :
    Calls Try.prog 26 #[.pointer (some ⟨p, 0, none⟩)] w fun e w' => e = .returned (.bool true) ∧ w = w' := by
  have he : (binOp .eql 49 (.slice none 0 0) (.slice none 0 0)).run Try.prog w = .ok (.bool true) w := by kernel_rfl
  go_enter Try.func26, Try.ntmps26
  go_wp2
  go_ret
  exact ⟨rfl, rfl⟩
/-! ### active -/
def Dk.half (d : Dk) : Int := if genL d.h0 = 0 ∧ genL d.h1 = 0 then -1 else if genL d.h0 < genL d.h1 then 1 else 0
def Dk.gen (d : Dk) : Nat := if genL d.h0 = 0 ∧ genL d.h1 = 0 then 0 else if genL d.h0 < genL d.h1 then genL d.h1 else genL d.h0
set_option maxRecDepth 100000 in
set_option maxHeartbeats 4000000 in
theorem active_any (p b0 b1 : Nat) (d : Dk) (w : World) (hd : DiskAt w p b0 b1 d) (ho : d.ok) :
    Calls Try.prog 27 #[.pointer (some ⟨p, 0, none⟩)] w fun e w' => e = .returned (.tuple #[.int .i64 d.half, .int .u64 (d.gen : Int)]) ∧ Below w.heap.size w w' := by
  have HG0 := Lib.hid (fun W (h : HalfAt W b0 d.h0) => generation_any b0 d.h0 W h (by rw [ho.l0]; exact ho.lo) (by rw [ho.l0]; exact ho.hi))
  have HG1 := Lib.hid (fun W (h : HalfAt W b1 d.h1) => generation_any b1 d.h1 W h (by rw [ho.l1]; exact ho.lo) (by rw [ho.l1]; exact ho.hi))
  rw [ho.l0] at HG0
  rw [ho.l1] at HG1
  obtain ⟨k0, k1, -, -, -, -⟩ := four_cells hd.at_
  have HH := Lib.hid hd
  obtain ⟨x, hx⟩ : ∃ x, x = d.half := ⟨_, rfl⟩
  obtain ⟨y, hy⟩ : ∃ y, y = d.gen := ⟨_, rfl⟩
  rw [← hx, ← hy]
  unfold Dk.half at hx
  unfold Dk.gen at hy
  obtain ⟨g0, hg0⟩ : ∃ g, g = genL d.h0 := ⟨_, rfl⟩
  obtain ⟨g1, hg1⟩ : ∃ g, g = genL d.h1 := ⟨_, rfl⟩
  rw [← hg0, ← hg1] at hx hy
  rw [← hg0] at HG0
  rw [← hg1] at HG1
  have HX := Lib.hid hx
  have HY := Lib.hid hy
  clear hx hy hg0 hg1 hd
  go_enter Try.func27, Try.ntmps27
  go_upto_region 1 with (fail)
  refine wp_region_heldL (fun w' => w'.cell? ⟨p, 0, none⟩ = some (.slice (some ⟨b0, 0, none⟩) d.size d.size) ∧ w'.cell? ⟨p, 1, none⟩ = some (.slice (some ⟨b1, 0, none⟩) d.size d.size)) (by kernel_rfl) ⟨k0, k1⟩ (fun hS => ?_)
  refine wpAnyH_takeL 0 (v := ?_) (by kernel_rfl) rfl (by kernel_rfl) (by kernel_rfl) (fun _ _ _ h => h) (Or.inl ⟨by rfl, ?_⟩) (by assumption) ?_
  rotate_left
  · (intro wq hSq; (try dsimp only at hSq); go_simp; try with_reducible rfl)
  try simp only [Act.put, List.setIfInBounds_toArray, List.set_cons_zero, List.set_cons_succ]
  refine wpAnyH_takeL 1 (v := ?_) (by kernel_rfl) rfl (by kernel_rfl) (by kernel_rfl) (fun _ _ _ h => h) (Or.inl ⟨by rfl, ?_⟩) (by assumption) ?_
  rotate_left
  · (intro wq hSq; (try dsimp only at hSq); go_simp; try with_reducible rfl)
  try simp only [Act.put, List.setIfInBounds_toArray, List.set_cons_zero, List.set_cons_succ]
  refine wpAnyH_takeL 2 (v := ?_) (by kernel_rfl) rfl (by kernel_rfl) (by kernel_rfl) (fun _ _ _ h => h) (Or.inl ⟨by rfl, ?_⟩) (by assumption) ?_
  rotate_left
  · (intro wq hSq; (try dsimp only at hSq); go_simp; try with_reducible rfl)
  try simp only [Act.put, List.setIfInBounds_toArray, List.set_cons_zero, List.set_cons_succ]
  refine wpAnyH_takeL 3 (v := ?_) (by kernel_rfl) rfl (by kernel_rfl) (by kernel_rfl) (fun _ _ _ h => h) (Or.inl ⟨by rfl, ?_⟩) (by assumption) ?_
  rotate_left
  · (intro wq hSq; (try dsimp only at hSq); go_simp; try with_reducible rfl)
  try simp only [Act.put, List.setIfInBounds_toArray, List.set_cons_zero, List.set_cons_succ]
  refine wpAnyH_takeL 4 (v := ?_) (by kernel_rfl) rfl (by kernel_rfl) (by kernel_rfl) (fun _ _ _ h => h) (Or.inl ⟨by rfl, ?_⟩) (by assumption) ?_
  rotate_left
  · (intro wq hSq; (try dsimp only at hSq); go_simp; try with_reducible rfl)
  try simp only [Act.put, List.setIfInBounds_toArray, List.set_cons_zero, List.set_cons_succ]
  refine wpAnyH_takeL 6 (v := ?_) (by kernel_rfl) rfl (by kernel_rfl) (by kernel_rfl) (fun _ _ _ h => h) (Or.inl ⟨by rfl, ?_⟩) (by assumption) ?_
  rotate_left
  · (intro wq hSq; (try dsimp only at hSq); go_simp; try with_reducible rfl)
  try simp only [Act.put, List.setIfInBounds_toArray, List.set_cons_zero, List.set_cons_succ]
  refine wpAnyH_takeL 7 (v := ?_) (by kernel_rfl) rfl (by kernel_rfl) (by kernel_rfl) (fun _ _ _ h => h) (Or.inl ⟨by rfl, ?_⟩) (by assumption) ?_
  rotate_left
  · (intro wq hSq; (try dsimp only at hSq); go_simp; try with_reducible rfl)
  try simp only [Act.put, List.setIfInBounds_toArray, List.set_cons_zero, List.set_cons_succ]
  refine wpAnyH_takeL 8 (v := ?_) (by kernel_rfl) rfl (by kernel_rfl) (by kernel_rfl) (fun _ _ _ h => h) (Or.inl ⟨by rfl, ?_⟩) (by assumption) ?_
  rotate_left
  · (intro wq hSq; (try dsimp only at hSq); go_simp; try with_reducible rfl)
  try simp only [Act.put, List.setIfInBounds_toArray, List.set_cons_zero, List.set_cons_succ]
  refine wpAnyH_takeL 9 (v := ?_) (by kernel_rfl) rfl (by kernel_rfl) (by kernel_rfl) (fun _ _ _ h => h) (Or.inl ⟨by rfl, ?_⟩) (by assumption) ?_
  rotate_left
  · (intro wq hSq; (try dsimp only at hSq); go_simp; try with_reducible rfl)
  try simp only [Act.put, List.setIfInBounds_toArray, List.set_cons_zero, List.set_cons_succ]
  refine wpAnyH_takeL 10 (v := ?_) (by kernel_rfl) rfl (by kernel_rfl) (by kernel_rfl) (fun _ _ _ h => h) (Or.inl ⟨by rfl, ?_⟩) (by assumption) ?_
  rotate_left
  · (intro wq hSq; (try dsimp only at hSq); go_simp; try with_reducible rfl)
  try simp only [Act.put, List.setIfInBounds_toArray, List.set_cons_zero, List.set_cons_succ]
  refine wpAnyH_stepL 5 (by kernel_rfl) rfl (fun K hK => ?_)
  go_simp
  go_at_call 44
  refine (HG0.out _ HH.out.drew.a0).mono ?_
  rintro e w2 ⟨rfl, hb2d⟩
  have hb2 : Below w.heap.size w w2 := ((Below.refl w.heap.size w).drew).trans hb2d
  have hd2 := HH.out.kept hb2
  obtain ⟨j0, j1, -, -, -, -⟩ := four_cells hd2.at_
  have HD2 := Lib.hid hd2
  refine hK.out _ _ ⟨j0, j1⟩ (fun hS2 => ?_)
  clear hK K hS hd2
  try simp only [Act.put, List.setIfInBounds_toArray, List.set_cons_zero, List.set_cons_succ]
  refine wpAnyH_stepL 11 (by kernel_rfl) rfl (fun K hK => ?_)
  go_simp
  go_at_call 44
  refine (HG1.out _ HD2.out.a1).mono ?_
  rintro e w3 ⟨rfl, hb3d⟩
  have hb3 : Below w.heap.size w w3 := hb2.trans (hb3d.mono hb2.size)
  obtain ⟨l0, l1, -, -, -, -⟩ := four_cells (HH.out.kept hb3).at_
  refine hK.out _ _ ⟨l0, l1⟩ (fun hS3 => ?_)
  clear hK K hS2
  try simp only [Act.put, List.setIfInBounds_toArray, List.set_cons_zero, List.set_cons_succ]
  refine wpAnyH_takeL 12 (v := ?_) (by kernel_rfl) rfl (by kernel_rfl) (by kernel_rfl) (fun _ _ _ h => h) (Or.inl ⟨by rfl, ?_⟩) (by assumption) ?_
  rotate_left
  · (intro wq hSq; (try dsimp only at hSq); go_simp; try with_reducible rfl)
  try simp only [Act.put, List.setIfInBounds_toArray, List.set_cons_zero, List.set_cons_succ]
  refine wpAnyH_takeL 13 (v := ?_) (by kernel_rfl) rfl (by kernel_rfl) (by kernel_rfl) (fun _ _ _ h => h) (Or.inl ⟨by rfl, ?_⟩) (by assumption) ?_
  rotate_left
  · (intro wq hSq; (try dsimp only at hSq); go_simp; try with_reducible rfl)
  try simp only [Act.put, List.setIfInBounds_toArray, List.set_cons_zero, List.set_cons_succ]
  refine wpAnyH_end (by kernel_rfl) ?_
  by_cases c0 : g0 = 0
  · by_cases c1 : g1 = 0
    · have t0 : ((g0 : Int) == 0) = true := by simp [c0]
      have t1 : ((g1 : Int) == 0) = true := by simp [c1]
      obtain rfl : x = -1 := by rw [HX.out, if_pos ⟨c0, c1⟩]
      obtain rfl : y = 0 := by rw [HY.out, if_pos ⟨c0, c1⟩]
      go_wp2
      go_ret2
      exact ⟨rfl, hb3⟩
    · have t0 : ((g0 : Int) == 0) = true := by simp [c0]
      have t1 : ((g1 : Int) == 0) = false := by rw [beq_eq_false_iff_ne]; omega
      have t2 : (g0 : Int) < (g1 : Int) := by omega
      obtain rfl : x = 1 := by rw [HX.out, if_neg (by omega), if_pos (by omega)]
      obtain rfl : y = g1 := by rw [HY.out, if_neg (by omega), if_pos (by omega)]
      go_wp2
      go_ret2
      exact ⟨rfl, hb3⟩
  · have t0 : ((g0 : Int) == 0) = false := by rw [beq_eq_false_iff_ne]; omega
    by_cases c2 : g0 < g1
    · have t2 : (g0 : Int) < (g1 : Int) := by omega
      obtain rfl : x = 1 := by rw [HX.out, if_neg (by omega), if_pos c2]
      obtain rfl : y = g1 := by rw [HY.out, if_neg (by omega), if_pos c2]
      go_wp2
      go_ret2
      exact ⟨rfl, hb3⟩
    · have t2 : ¬ (g0 : Int) < (g1 : Int) := by omega
      obtain rfl : x = 0 := by rw [HX.out, if_neg (by omega), if_neg c2]
      obtain rfl : y = g0 := by rw [HY.out, if_neg (by omega), if_neg c2]
      go_wp2
      go_ret2
      exact ⟨rfl, hb3⟩
end Go.Proofs.Ytjfmcobikadjhaa
