/- Walks: a disk: a record's bytes. -/
import Derived.Test.YtjfmcobikadjhaaDA3
namespace Go.Proofs.Ytjfmcobikadjhaa
set_option linter.all false
open Go.RowKit Go.Shelf
def markL (g at_ : Nat) (data : List UInt8) : List UInt8 := eightL g ++ (eightL at_).drop 4 ++ data
def bodyL (g at_ : Nat) (data : List UInt8) : List UInt8 := (eightL data.length).drop 4 ++ data ++ shortL (markL g at_ data)
theorem bodyL_length (g at_ : Nat) (data : List UInt8) : (bodyL g at_ data).length = 12 + data.length := by
  unfold bodyL
  rw [List.length_append, List.length_append, List.length_drop, eightL_length, shortL_length]; omega
theorem bytesOf_append (a b : List UInt8) : bytesOf a ++ bytesOf b = bytesOf (a ++ b) := by
  apply ByteArray.ext
  simp [bytesOf]
theorem eight_size (x : Nat) : (bytesOf (eightL x)).size = 8 := eightL_length x
theorem eight_cut (x : Nat) : (bytesOf (eightL x)).extract 4 8 = bytesOf ((eightL x).drop 4) := by
  apply ByteArray.ext
  have h := eightL_length x
  rw [ByteArray.data_extract]
  apply Array.ext'
  simp [bytesOf, List.drop_take]
  rw [List.take_of_length_le (by rw [List.length_drop]; omega)]
set_option maxRecDepth 100000 in
set_option maxHeartbeats 4000000 in
theorem body_any (g at_ : Nat) (data : List UInt8) (hg : g < 18446744073709551616) (hat : at_ ≤ 1000000) (hd : data.length ≤ 65535) (w : World) :
    Calls Try.prog 30 #[.int .u64 (g : Int), .int .i64 (at_ : Int), .string (bytesOf data)] w fun e w' => e = .returned (.string (bytesOf (bodyL g at_ data))) ∧ Below w.heap.size w w' := by
  obtain ⟨n, hn⟩ : ∃ n, n = data.length := ⟨_, rfl⟩
  have hs : (bytesOf data).size = n := by rw [hn]; rfl
  have hs1 : ((bytesOf data).size : Int) = (n : Int) := by rw [hs]
  have hw1 : IntKind.u64.wrap (n : Int) = (n : Int) := IntWalk.u64_in _ ⟨by omega, by omega⟩
  have hw2 : IntKind.u64.wrap (at_ : Int) = (at_ : Int) := IntWalk.u64_in _ ⟨by omega, by omega⟩
  have HN := Lib.hid hn
  have a1 := eight_size
  have a2 := eight_cut
  have a3 := bytesOf_append
  have a4 : ∀ x, (bytesOf ((eightL x).drop 4)).size = 4 := fun x => by show ((eightL x).drop 4).length = 4; rw [List.length_drop, eightL_length]
  have z2 : (bytesOf ((eightL n).drop 4 ++ data)).size = 4 + n := by show ((eightL n).drop 4 ++ data).length = _; rw [List.length_append, List.length_drop, eightL_length, ← hn]
  have z3 : (bytesOf (eightL g ++ (eightL at_).drop 4)).size = 12 := by show (eightL g ++ (eightL at_).drop 4).length = _; rw [List.length_append, List.length_drop, eightL_length, eightL_length]
  have z4 : ∀ l, (bytesOf (shortL l)).size = 8 := fun l => shortL_length l
  have c1 : ¬ 9223372036854775807 < 4 + n := by omega
  have c2 : ¬ 9223372036854775807 < 12 + n := by omega
  have c3 : ¬ 9223372036854775807 < 4 + n + 8 := by omega
  clear hn
  go_enter Try.func30, Try.ntmps30
  go_upto_region 1 with (fail)
  refine wp_region_heldL (fun _ => True) (by kernel_rfl) trivial (fun hS => ?_)
  refine wpAnyH_takeL 0 (v := ?_) (by kernel_rfl) rfl (by kernel_rfl) (by kernel_rfl) (fun _ _ _ h => h) (Or.inl ⟨by rfl, ?_⟩) (by assumption) ?_
  rotate_left
  · (intro wq hSq; (try dsimp only at hSq); go_simp; try with_reducible rfl)
  try simp only [Act.put, List.setIfInBounds_toArray, List.set_cons_zero, List.set_cons_succ]
  refine wpAnyH_takeL 1 (v := ?_) (by kernel_rfl) rfl (by kernel_rfl) (by kernel_rfl) (fun _ _ _ h => h) (Or.inl ⟨by rfl, ?_⟩) (by assumption) ?_
  rotate_left
  · (intro wq hSq; (try dsimp only at hSq); go_simp; try with_reducible rfl)
  try simp only [Act.put, List.setIfInBounds_toArray, List.set_cons_zero, List.set_cons_succ]
  refine wpAnyH_takeL 2 (v := ?_) (by kernel_rfl) rfl (by kernel_rfl) (by kernel_rfl) (fun _ _ _ h => h) (Or.inl ⟨by rfl, ?_⟩) (by assumption) ?_
  rotate_left
  · (intro wq hSq; (try dsimp only at hSq); go_simp; try with_reducible rfl)
  try simp only [Act.put, List.setIfInBounds_toArray, List.set_cons_zero, List.set_cons_succ]
  refine wpAnyH_takeL 5 (v := ?_) (by kernel_rfl) rfl (by kernel_rfl) (by kernel_rfl) (fun _ _ _ h => h) (Or.inl ⟨by rfl, ?_⟩) (by assumption) ?_
  rotate_left
  · (intro wq hSq; (try dsimp only at hSq); go_simp; try with_reducible rfl)
  try simp only [Act.put, List.setIfInBounds_toArray, List.set_cons_zero, List.set_cons_succ]
  refine wpAnyH_takeL 7 (v := ?_) (by kernel_rfl) rfl (by kernel_rfl) (by kernel_rfl) (fun _ _ _ h => h) (Or.inl ⟨by rfl, ?_⟩) (by assumption) ?_
  rotate_left
  · (intro wq hSq; (try dsimp only at hSq); go_simp; try with_reducible rfl)
  try simp only [Act.put, List.setIfInBounds_toArray, List.set_cons_zero, List.set_cons_succ]
  refine wpAnyH_takeL 9 (v := ?_) (by kernel_rfl) rfl (by kernel_rfl) (by kernel_rfl) (fun _ _ _ h => h) (Or.inl ⟨by rfl, ?_⟩) (by assumption) ?_
  rotate_left
  · (intro wq hSq; (try dsimp only at hSq); go_simp; try with_reducible rfl)
  try simp only [Act.put, List.setIfInBounds_toArray, List.set_cons_zero, List.set_cons_succ]
  refine wpAnyH_takeL 10 (v := ?_) (by kernel_rfl) rfl (by kernel_rfl) (by kernel_rfl) (fun _ _ _ h => h) (Or.inl ⟨by rfl, ?_⟩) (by assumption) ?_
  rotate_left
  · (intro wq hSq; (try dsimp only at hSq); go_simp; try with_reducible rfl)
  try simp only [Act.put, List.setIfInBounds_toArray, List.set_cons_zero, List.set_cons_succ]
  refine wpAnyH_takeL 14 (v := ?_) (by kernel_rfl) rfl (by kernel_rfl) (by kernel_rfl) (fun _ _ _ h => h) (Or.inl ⟨by rfl, ?_⟩) (by assumption) ?_
  rotate_left
  · (intro wq hSq; (try dsimp only at hSq); go_simp; try with_reducible rfl)
  try simp only [Act.put, List.setIfInBounds_toArray, List.set_cons_zero, List.set_cons_succ]
  refine wpAnyH_stepL 3 (by kernel_rfl) rfl (fun K hK => ?_)
  go_simp
  go_at_call 24
  refine (eightN_any n (by have := HN.out; omega) _).mono ?_
  rintro e w2 ⟨rfl, hb2d⟩
  have hb2 : Below w.heap.size w w2 := ((Below.refl w.heap.size w).drew).trans hb2d
  refine hK.out _ _ trivial (fun _ => ?_)
  clear hK K
  try simp only [Act.put, List.setIfInBounds_toArray, List.set_cons_zero, List.set_cons_succ]
  refine wpAnyH_takeL 4 (v := ?_) (by kernel_rfl) rfl (by kernel_rfl) (by kernel_rfl) (fun _ _ _ h => h) (Or.inl ⟨by rfl, ?_⟩) (by assumption) ?_
  rotate_left
  · (intro wq hSq; (try dsimp only at hSq); go_simp; try with_reducible rfl)
  try simp only [Act.put, List.setIfInBounds_toArray, List.set_cons_zero, List.set_cons_succ]
  refine wpAnyH_takeL 6 (v := ?_) (by kernel_rfl) rfl (by kernel_rfl) (by kernel_rfl) (fun _ _ _ h => h) (Or.inl ⟨by rfl, ?_⟩) (by assumption) ?_
  rotate_left
  · (intro wq hSq; (try dsimp only at hSq); go_simp; try with_reducible rfl)
  try simp only [Act.put, List.setIfInBounds_toArray, List.set_cons_zero, List.set_cons_succ]
  refine wpAnyH_stepL 8 (by kernel_rfl) rfl (fun K hK => ?_)
  go_simp
  go_at_call 24
  refine (eightN_any g hg _).mono ?_
  rintro e w3 ⟨rfl, hb3d⟩
  have hb3 := hb2.trans (hb3d.mono hb2.size)
  refine hK.out _ _ trivial (fun _ => ?_)
  clear hK K
  try simp only [Act.put, List.setIfInBounds_toArray, List.set_cons_zero, List.set_cons_succ]
  refine wpAnyH_stepL 11 (by kernel_rfl) rfl (fun K hK => ?_)
  go_simp
  go_at_call 24
  refine (eightN_any at_ (by omega) _).mono ?_
  rintro e w4 ⟨rfl, hb4d⟩
  have hb4 := hb3.trans (hb4d.mono hb3.size)
  refine hK.out _ _ trivial (fun _ => ?_)
  clear hK K
  try simp only [Act.put, List.setIfInBounds_toArray, List.set_cons_zero, List.set_cons_succ]
  refine wpAnyH_takeL 12 (v := ?_) (by kernel_rfl) rfl (by kernel_rfl) (by kernel_rfl) (fun _ _ _ h => h) (Or.inl ⟨by rfl, ?_⟩) (by assumption) ?_
  rotate_left
  · (intro wq hSq; (try dsimp only at hSq); go_simp; try with_reducible rfl)
  try simp only [Act.put, List.setIfInBounds_toArray, List.set_cons_zero, List.set_cons_succ]
  refine wpAnyH_takeL 13 (v := ?_) (by kernel_rfl) rfl (by kernel_rfl) (by kernel_rfl) (fun _ _ _ h => h) (Or.inl ⟨by rfl, ?_⟩) (by assumption) ?_
  rotate_left
  · (intro wq hSq; (try dsimp only at hSq); go_simp; try with_reducible rfl)
  try simp only [Act.put, List.setIfInBounds_toArray, List.set_cons_zero, List.set_cons_succ]
  refine wpAnyH_takeL 15 (v := ?_) (by kernel_rfl) rfl (by kernel_rfl) (by kernel_rfl) (fun _ _ _ h => h) (Or.inl ⟨by rfl, ?_⟩) (by assumption) ?_
  rotate_left
  · (intro wq hSq; (try dsimp only at hSq); go_simp; try with_reducible rfl)
  try simp only [Act.put, List.setIfInBounds_toArray, List.set_cons_zero, List.set_cons_succ]
  refine wpAnyH_stepL 16 (by kernel_rfl) rfl (fun K hK => ?_)
  go_simp
  go_at_call 25
  refine (shortN_any (eightL g ++ (eightL at_).drop 4 ++ data) (by rw [List.length_append, List.length_append, List.length_drop, eightL_length, eightL_length]; have := HN.out; omega) _).mono ?_
  rintro e w5 ⟨rfl, hb5d⟩
  have hb5 := hb4.trans (hb5d.mono hb4.size)
  refine hK.out _ _ trivial (fun _ => ?_)
  clear hK K
  try simp only [Act.put, List.setIfInBounds_toArray, List.set_cons_zero, List.set_cons_succ]
  refine wpAnyH_takeL 17 (v := ?_) (by kernel_rfl) rfl (by kernel_rfl) (by kernel_rfl) (fun _ _ _ h => h) (Or.inl ⟨by rfl, ?_⟩) (by assumption) ?_
  rotate_left
  · (intro wq hSq; (try dsimp only at hSq); go_simp; try with_reducible rfl)
  try simp only [Act.put, List.setIfInBounds_toArray, List.set_cons_zero, List.set_cons_succ]
  refine wpAnyH_takeL 18 (v := ?_) (by kernel_rfl) rfl (by kernel_rfl) (by kernel_rfl) (fun _ _ _ h => h) (Or.inl ⟨by rfl, ?_⟩) (by assumption) ?_
  rotate_left
  · (intro wq hSq; (try dsimp only at hSq); go_simp; try with_reducible rfl)
  try simp only [Act.put, List.setIfInBounds_toArray, List.set_cons_zero, List.set_cons_succ]
  refine wpAnyH_end (by kernel_rfl) ?_
  go_wp2
  go_ret
  refine ⟨?_, hb5⟩
  rw [HN.out]
  rfl
end Go.Proofs.Ytjfmcobikadjhaa
