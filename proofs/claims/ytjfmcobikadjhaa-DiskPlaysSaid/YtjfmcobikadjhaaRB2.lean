/- Walks: the reference's disk: a new one. -/
import Derived.Test.YtjfmcobikadjhaaRB1
namespace Go.Proofs.Ytjfmcobikadjhaa
set_option linter.all false
open Go.RowKit Go.Shelf
theorem rNew_no (n : Int) (hn : n < 64 ∨ 262144 < n) (w : World) : Calls Try.prog 19 #[.int .i64 n] w fun e w' => e = .returned (.tuple #[.pointer none, .int .i64 2]) ∧ w = w' := by
  rcases hn with h | h
  · go_enter Try.func19, Try.ntmps19
    go_wp2
    go_ret2
    exact ⟨rfl, rfl⟩
  · have h2 : ¬ n < 64 := by omega
    go_enter Try.func19, Try.ntmps19
    go_wp2
    go_ret2
    exact ⟨rfl, rfl⟩
set_option maxRecDepth 100000 in
set_option maxHeartbeats 4000000 in
theorem rNew_any (n : Nat) (h64 : 64 ≤ n) (hmx : n ≤ 262144) (w : World) : Calls Try.prog 19 #[.int .i64 (n : Int)] w fun e w' =>
    (∃ p b, e = .returned (.tuple #[.pointer (some ⟨p, 0, none⟩), .int .i64 0]) ∧ RDiskAt w' p b (newDk n) ∧ w.heap.size ≤ p ∧ w.heap.size ≤ b) ∧ Below w.heap.size w w' := by
  obtain ⟨D, hD⟩ : ∃ D, D = 2 * n := ⟨_, rfl⟩
  have hmul : (2 : Int) * (n : Int) = (D : Int) := by omega
  have hDb : D ≤ 600000 := by omega
  have hD17 : 17 ≤ D := by omega
  have hmk : ∀ W : World, (Instr.makeSlice 49 (.int .i64 (D : Int)) (.int .i64 (D : Int))).run Try.prog W = .ok (.slice (some ⟨W.heap.size, 0, none⟩) D D) (W.alloc (.cells (zrow8 D) 5)) := fun W => make_u8 D D (Nat.le_refl _) (by omega) W
  have HD := Lib.hid hD
  clear hD
  go_enter Try.func19, Try.ntmps19
  go_wp2_with fail
  obtain ⟨W2, hW2e⟩ : ∃ W2, W2 = ((w.alloc (.cells (zrow8 D) 5)).alloc (.cells #[.int .i64 (n : Int), .slice (some ⟨w.heap.size, 0, none⟩) D D, .int .i64 (-1), .bool false] 69)) := ⟨_, rfl⟩
  have hB2 : Below w.heap.size w W2 := by rw [hW2e]; exact ((Below.refl _ w).alloc (Nat.le_refl _) _).alloc (by simp) _
  have g2 : W2.heap[w.heap.size + 1]? = some (.cells #[.int .i64 (n : Int), .slice (some ⟨w.heap.size, 0, none⟩) D D, .int .i64 (-1), .bool false] 69) := by
    rw [hW2e]; exact alloc_last _ _ (by simp)
  have ga : W2.heap[w.heap.size]? = some (.cells (zrow8 D) 5) := by
    rw [hW2e, Below.heap_alloc _ _ _ (by simp)]; exact alloc_last _ _ rfl
  rw [← hW2e]
  clear hW2e
  obtain ⟨p, hp⟩ : ∃ p, p = w.heap.size + 1 := ⟨_, rfl⟩
  obtain ⟨b, hb⟩ : ∃ p, p = w.heap.size := ⟨_, rfl⟩
  rw [← hp, ← hb] at g2
  rw [← hb] at ga
  rw [← hp]
  have hl2 : p < W2.heap.size := lt_of_heap g2
  have hlb : b < W2.heap.size := lt_of_heap ga
  have k0 := (four_cells g2).2.1
  have HP := Lib.hid hp
  have HB := Lib.hid hb
  clear hp hb
  refine wp_region_heldL (fun w' => w'.cell? ⟨p, 1, none⟩ = some (.slice (some ⟨b, 0, none⟩) D D)) (by kernel_rfl) k0 (fun hS => ?_)
  refine wpAnyH_takeL 0 (v := ?_) (by kernel_rfl) rfl (by kernel_rfl) (by kernel_rfl) (fun _ _ _ h => h) (Or.inl ⟨by rfl, ?_⟩) (by assumption) ?_
  rotate_left
  · (intro wq hSq; (try dsimp only at hSq); go_simp; try with_reducible rfl)
  try simp only [Act.put, List.setIfInBounds_toArray, List.set_cons_zero, List.set_cons_succ]
  refine wpAnyH_takeL 1 (v := ?_) (by kernel_rfl) rfl (by kernel_rfl) (by kernel_rfl) (fun _ _ _ h => h) (Or.inl ⟨by rfl, ?_⟩) (by assumption) ?_
  rotate_left
  · (intro wq hSq; (try dsimp only at hSq); go_simp; try with_reducible rfl)
  try simp only [Act.put, List.setIfInBounds_toArray, List.set_cons_zero, List.set_cons_succ]
  refine wpAnyH_takeL 2 (v := ?_) (by kernel_rfl) rfl (by kernel_rfl) (by kernel_rfl) (fun _ _ _ h => h) (Or.inl ⟨by rfl, ?_⟩) (by assumption) ?_
  rotate_left
  · (intro wq hSq; (try dsimp only at hSq); go_simp; try with_reducible rfl)
  try simp only [Act.put, List.setIfInBounds_toArray, List.set_cons_zero, List.set_cons_succ]
  refine wpAnyH_takeL 3 (v := ?_) (by kernel_rfl) rfl (by kernel_rfl) (by kernel_rfl) (fun _ _ _ h => h) (Or.inl ⟨by rfl, ?_⟩) (by assumption) ?_
  rotate_left
  · (intro wq hSq; (try dsimp only at hSq); go_simp; try with_reducible rfl)
  try simp only [Act.put, List.setIfInBounds_toArray, List.set_cons_zero, List.set_cons_succ]
  refine wpAnyH_stepL 4 (by kernel_rfl) rfl (fun K hK => ?_)
  go_simp
  go_at_call 33
  refine (reight_any 1 (by omega) _).mono ?_
  rintro e w3 ⟨rfl, hb3d⟩
  have hb3 : Below W2.heap.size W2 w3 := ((Below.refl _ W2).drew).trans hb3d
  refine hK.out _ _ ((hb3.cell (p := ⟨p, 1, none⟩) hl2).trans k0) (fun hS3 => ?_)
  clear hK K hS
  try simp only [Act.put, List.setIfInBounds_toArray, List.set_cons_zero, List.set_cons_succ]
  have a3 := bytesOf_append
  have x1 : (bytesOf (1 :: eightL 1)).size = 9 := by show (1 :: eightL 1).length = 9; rw [List.length_cons, eightL_length]
  have x0 : (⟨#[1]⟩ : ByteArray) ++ bytesOf (eightL 1) = bytesOf (1 :: eightL 1) := bytesOf_append [1] _
  have x2 : (⟨#[1]⟩ : ByteArray).size = 1 := rfl
  have x3 : (bytesOf (eightL 1)).size = 8 := eight_size 1
  refine wpAnyH_takeL 5 (v := ?_) (by kernel_rfl) rfl (by kernel_rfl) (by kernel_rfl) (fun _ _ _ h => h) (Or.inl ⟨by rfl, ?_⟩) (by assumption) ?_
  rotate_left
  · (intro wq hSq; (try dsimp only at hSq); go_simp; try with_reducible rfl)
  try simp only [Act.put, List.setIfInBounds_toArray, List.set_cons_zero, List.set_cons_succ]
  refine wpAnyH_stepL 6 (by kernel_rfl) rfl (fun K hK => ?_)
  go_simp
  go_at_call 33
  refine (reight_any 1 (by omega) _).mono ?_
  rintro e w4 ⟨rfl, hb4d⟩
  have hb4 : Below W2.heap.size W2 w4 := hb3.trans (hb4d.mono hb3.size)
  refine hK.out _ _ ((hb4.cell (p := ⟨p, 1, none⟩) hl2).trans k0) (fun hS4 => ?_)
  clear hK K hS3
  try simp only [Act.put, List.setIfInBounds_toArray, List.set_cons_zero, List.set_cons_succ]
  refine wpAnyH_stepL 7 (by kernel_rfl) rfl (fun K hK => ?_)
  go_simp
  go_at_call 34
  refine (refShortN_any (eightL 1) (by rw [eightL_length]; omega) _).mono ?_
  rintro e w5 ⟨rfl, hb5d⟩
  have hb5 : Below W2.heap.size W2 w5 := hb4.trans (hb5d.mono hb4.size)
  refine hK.out _ _ ((hb5.cell (p := ⟨p, 1, none⟩) hl2).trans k0) (fun hS5 => ?_)
  clear hK K hS4
  try simp only [Act.put, List.setIfInBounds_toArray, List.set_cons_zero, List.set_cons_succ]
  have x4 : (bytesOf (shortL (eightL 1))).size = 8 := shortL_length _
  refine wpAnyH_takeL 8 (v := ?_) (by kernel_rfl) rfl (by kernel_rfl) (by kernel_rfl) (fun _ _ _ h => h) (Or.inl ⟨by rfl, ?_⟩) (by assumption) ?_
  rotate_left
  · (intro wq hSq; (try dsimp only at hSq); go_simp; try with_reducible rfl)
  try simp only [Act.put, List.setIfInBounds_toArray, List.set_cons_zero, List.set_cons_succ]
  refine wpAnyH_stepL 9 (by kernel_rfl) rfl (fun K hK => ?_)
  refine step_copy_half rfl (.tmp 20) (.tmp 25) 9 rfl b D (List.replicate D 0) newHead rfl rfl ((hb5.block _ hlb).trans ga) (by simp) (by rw [newHead_length]; omega) ?_
  intro w6 hg6 hk6
  have hn02 : ¬ p = b := by have := HP.out; have := HB.out; omega
  have q2 : w6.heap[p]? = some (.cells #[.int .i64 (n : Int), .slice (some ⟨b, 0, none⟩) D D, .int .i64 (-1), .bool false] 69) := (hk6.block _ (Nat.lt_of_lt_of_le hl2 hb5.size) hn02).trans ((hb5.block _ hl2).trans g2)
  have hB6 : Below w.heap.size w w6 := (hB2.trans (hb5.mono hB2.size)).trans (hk6.below (by have := hB2.size; have := hb5.size; omega) (fun k e => by have := HB.out; subst e; omega))
  refine hK.out _ _ (four_cells q2).2.1 (fun hS6 => ?_)
  clear hK K hS5
  try simp only [Act.put, List.setIfInBounds_toArray, List.set_cons_zero, List.set_cons_succ]
  refine wpAnyH_end (by kernel_rfl) ?_
  have HB6 := Lib.hid hB6
  clear k0 ga g2 hB2 hb3d hb4d hb5d hb3 hb4 hb5 hk6 hB6
  go_wp2
  go_ret2
  refine ⟨⟨p, b, rfl, ⟨?_, ⟨5, ?_⟩, fun e => hn02 e.symm⟩, by have := HP.out; omega, by have := HB.out; omega⟩, HB6.out⟩
  · rw [HD.out] at q2; exact q2
  · rw [hg6, newHead_length, List.drop_replicate]
    show _ = some (Obj.cells (List.map byteV ((newHead ++ List.replicate (n - 17) 0) ++ List.replicate n 0)).toArray _)
    rw [List.append_assoc, List.replicate_append_replicate, show D - 17 = n - 17 + n by have := HD.out; omega]
end Go.Proofs.Ytjfmcobikadjhaa
