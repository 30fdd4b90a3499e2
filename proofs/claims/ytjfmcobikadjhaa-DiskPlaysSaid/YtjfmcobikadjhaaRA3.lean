/- Walks: the reference's disk: a record's bytes; a half's generation. -/
import Derived.Test.YtjfmcobikadjhaaRA2
namespace Go.Proofs.Ytjfmcobikadjhaa
set_option linter.all false
open Go.RowKit Go.Shelf
theorem refShortN_any (l : List UInt8) (hl : l.length ≤ 1000000) (w : World) : Calls Try.prog 34 #[.string (bytesOf l)] w fun e w' => e = .returned (.string (bytesOf (shortL l))) ∧ Below w.heap.size w w' :=
  refShort_any (bytesOf l) (by rw [bytesOf_size]; omega) w
/-- The half of a number. -/
def Dk.hf (d : Dk) (half : Nat) : List UInt8 := if half = 1 then d.h1 else d.h0
theorem hf_length {d : Dk} (ho : d.ok) (half : Nat) : (d.hf half).length = d.size := by unfold Dk.hf; split; exact ho.l1; exact ho.l0
theorem both_get {d : Dk} (ho : d.ok) (half : Nat) (hh : half ≤ 1) (i : Nat) (hi : i < d.size) : (d.h0 ++ d.h1)[half * d.size + i]? = (d.hf half)[i]? := by
  have h2 : half = 0 ∨ half = 1 := by omega
  rcases h2 with rfl | rfl
  · rw [Nat.zero_mul, Nat.zero_add, List.getElem?_append_left (by rw [ho.l0]; exact hi)]; rfl
  · rw [Nat.one_mul, List.getElem?_append_right (by rw [ho.l0]; omega), ho.l0, Nat.add_sub_cancel_left]; rfl
theorem both_take {d : Dk} (ho : d.ok) (half : Nat) (hh : half ≤ 1) (o m : Nat) (hm : o + m ≤ d.size) : ((d.h0 ++ d.h1).drop (half * d.size + o)).take m = ((d.hf half).drop o).take m := by
  apply List.ext_getElem?
  intro i
  rw [List.getElem?_take, List.getElem?_take]
  split
  · rw [List.getElem?_drop, List.getElem?_drop, Nat.add_assoc, both_get ho half hh (o + i) (by omega)]
  · rfl
set_option maxRecDepth 100000 in
set_option maxHeartbeats 4000000 in
theorem rbody_any (g at_ : Nat) (data : List UInt8) (hg : g < 9223372036854775808) (hat : at_ ≤ 1000000) (hd : data.length ≤ 65535) (w : World) :
    Calls Try.prog 52 #[.int .i64 (g : Int), .int .i64 (at_ : Int), .string (bytesOf data)] w fun e w' => e = .returned (.string (bytesOf (bodyL g at_ data))) ∧ Below w.heap.size w w' := by
  obtain ⟨n, hn⟩ : ∃ n, n = data.length := ⟨_, rfl⟩
  have hs : (bytesOf data).size = n := by rw [hn]; rfl
  have hs1 : ((bytesOf data).size : Int) = (n : Int) := by rw [hs]
  have HN := Lib.hid hn
  have a1 := eight_size
  have a2 := eight_cut
  have a3 := bytesOf_append
  have a4 : ∀ x, (bytesOf ((eightL x).drop 4)).size = 4 := fun x => by show ((eightL x).drop 4).length = 4; rw [List.length_drop, eightL_length]
  have z2 : (bytesOf ((eightL n).drop 4 ++ data)).size = 4 + n := by show ((eightL n).drop 4 ++ data).length = _; rw [List.length_append, List.length_drop, eightL_length, ← hn]
  have z3 : (bytesOf (eightL g ++ (eightL at_).drop 4)).size = 12 := by show (eightL g ++ (eightL at_).drop 4).length = _; rw [List.length_append, List.length_drop, eightL_length, eightL_length]
  have z4 : ∀ l, (bytesOf (shortL l)).size = 8 := fun l => shortL_length l
  have c1 : ¬ 9223372036854775807 < 4 + n := by omega
  have c2 : ¬ 9223372036854775807 < 12 + n := by omega
  have c3 : ¬ 9223372036854775807 < 4 + n + 8 := by omega
  clear hn
  go_enter Try.func52, Try.ntmps52
  go_wp2_with fail
  refine (reight_any at_ (by omega) _).mono ?_
  rintro e w1 ⟨rfl, hb1⟩
  go_wp2_with fail
  refine wp_region_heldL (fun _ => True) (by kernel_rfl) trivial (fun hS => ?_)
  refine wpAnyH_takeL 0 (v := ?_) (by kernel_rfl) rfl (by kernel_rfl) (by kernel_rfl) (fun _ _ _ h => h) (Or.inl ⟨by rfl, ?_⟩) (by assumption) ?_
  rotate_left
  · (intro wq hSq; (try dsimp only at hSq); go_simp; try with_reducible rfl)
  try simp only [Act.put, List.setIfInBounds_toArray, List.set_cons_zero, List.set_cons_succ]
  refine wpAnyH_takeL 1 (v := ?_) (by kernel_rfl) rfl (by kernel_rfl) (by kernel_rfl) (fun _ _ _ h => h) (Or.inl ⟨by rfl, ?_⟩) (by assumption) ?_
  rotate_left
  · (intro wq hSq; (try dsimp only at hSq); go_simp; try with_reducible rfl)
  try simp only [Act.put, List.setIfInBounds_toArray, List.set_cons_zero, List.set_cons_succ]
  refine wpAnyH_takeL 4 (v := ?_) (by kernel_rfl) rfl (by kernel_rfl) (by kernel_rfl) (fun _ _ _ h => h) (Or.inl ⟨by rfl, ?_⟩) (by assumption) ?_
  rotate_left
  · (intro wq hSq; (try dsimp only at hSq); go_simp; try with_reducible rfl)
  try simp only [Act.put, List.setIfInBounds_toArray, List.set_cons_zero, List.set_cons_succ]
  refine wpAnyH_takeL 6 (v := ?_) (by kernel_rfl) rfl (by kernel_rfl) (by kernel_rfl) (fun _ _ _ h => h) (Or.inl ⟨by rfl, ?_⟩) (by assumption) ?_
  rotate_left
  · (intro wq hSq; (try dsimp only at hSq); go_simp; try with_reducible rfl)
  try simp only [Act.put, List.setIfInBounds_toArray, List.set_cons_zero, List.set_cons_succ]
  refine wpAnyH_takeL 8 (v := ?_) (by kernel_rfl) rfl (by kernel_rfl) (by kernel_rfl) (fun _ _ _ h => h) (Or.inl ⟨by rfl, ?_⟩) (by assumption) ?_
  rotate_left
  · (intro wq hSq; (try dsimp only at hSq); go_simp; try with_reducible rfl)
  try simp only [Act.put, List.setIfInBounds_toArray, List.set_cons_zero, List.set_cons_succ]
  refine wpAnyH_takeL 10 (v := ?_) (by kernel_rfl) rfl (by kernel_rfl) (by kernel_rfl) (fun _ _ _ h => h) (Or.inl ⟨by rfl, ?_⟩) (by assumption) ?_
  rotate_left
  · (intro wq hSq; (try dsimp only at hSq); go_simp; try with_reducible rfl)
  try simp only [Act.put, List.setIfInBounds_toArray, List.set_cons_zero, List.set_cons_succ]
  refine wpAnyH_stepL 2 (by kernel_rfl) rfl (fun K hK => ?_)
  go_simp
  go_at_call 33
  refine (reight_any n (by have := HN.out; omega) _).mono ?_
  rintro e w2 ⟨rfl, hb2d⟩
  have hb2 : Below w.heap.size w w2 := hb1.trans ((((Below.refl w1.heap.size w1).drew).trans hb2d).mono hb1.size)
  refine hK.out _ _ trivial (fun _ => ?_)
  clear hK K
  try simp only [Act.put, List.setIfInBounds_toArray, List.set_cons_zero, List.set_cons_succ]
  refine wpAnyH_takeL 3 (v := ?_) (by kernel_rfl) rfl (by kernel_rfl) (by kernel_rfl) (fun _ _ _ h => h) (Or.inl ⟨by rfl, ?_⟩) (by assumption) ?_
  rotate_left
  · (intro wq hSq; (try dsimp only at hSq); go_simp; try with_reducible rfl)
  try simp only [Act.put, List.setIfInBounds_toArray, List.set_cons_zero, List.set_cons_succ]
  refine wpAnyH_takeL 5 (v := ?_) (by kernel_rfl) rfl (by kernel_rfl) (by kernel_rfl) (fun _ _ _ h => h) (Or.inl ⟨by rfl, ?_⟩) (by assumption) ?_
  rotate_left
  · (intro wq hSq; (try dsimp only at hSq); go_simp; try with_reducible rfl)
  try simp only [Act.put, List.setIfInBounds_toArray, List.set_cons_zero, List.set_cons_succ]
  refine wpAnyH_stepL 7 (by kernel_rfl) rfl (fun K hK => ?_)
  go_simp
  go_at_call 33
  refine (reight_any g hg _).mono ?_
  rintro e w3 ⟨rfl, hb3d⟩
  have hb3 := hb2.trans (hb3d.mono hb2.size)
  refine hK.out _ _ trivial (fun _ => ?_)
  clear hK K
  try simp only [Act.put, List.setIfInBounds_toArray, List.set_cons_zero, List.set_cons_succ]
  refine wpAnyH_takeL 9 (v := ?_) (by kernel_rfl) rfl (by kernel_rfl) (by kernel_rfl) (fun _ _ _ h => h) (Or.inl ⟨by rfl, ?_⟩) (by assumption) ?_
  rotate_left
  · (intro wq hSq; (try dsimp only at hSq); go_simp; try with_reducible rfl)
  try simp only [Act.put, List.setIfInBounds_toArray, List.set_cons_zero, List.set_cons_succ]
  refine wpAnyH_takeL 11 (v := ?_) (by kernel_rfl) rfl (by kernel_rfl) (by kernel_rfl) (fun _ _ _ h => h) (Or.inl ⟨by rfl, ?_⟩) (by assumption) ?_
  rotate_left
  · (intro wq hSq; (try dsimp only at hSq); go_simp; try with_reducible rfl)
  try simp only [Act.put, List.setIfInBounds_toArray, List.set_cons_zero, List.set_cons_succ]
  refine wpAnyH_stepL 12 (by kernel_rfl) rfl (fun K hK => ?_)
  go_simp
  go_at_call 34
  refine (refShortN_any (eightL g ++ (eightL at_).drop 4 ++ data) (by rw [List.length_append, List.length_append, List.length_drop, eightL_length, eightL_length]; have := HN.out; omega) _).mono ?_
  rintro e w5 ⟨rfl, hb5d⟩
  have hb5 := hb3.trans (hb5d.mono hb3.size)
  refine hK.out _ _ trivial (fun _ => ?_)
  clear hK K
  try simp only [Act.put, List.setIfInBounds_toArray, List.set_cons_zero, List.set_cons_succ]
  refine wpAnyH_takeL 13 (v := ?_) (by kernel_rfl) rfl (by kernel_rfl) (by kernel_rfl) (fun _ _ _ h => h) (Or.inl ⟨by rfl, ?_⟩) (by assumption) ?_
  rotate_left
  · (intro wq hSq; (try dsimp only at hSq); go_simp; try with_reducible rfl)
  try simp only [Act.put, List.setIfInBounds_toArray, List.set_cons_zero, List.set_cons_succ]
  refine wpAnyH_takeL 14 (v := ?_) (by kernel_rfl) rfl (by kernel_rfl) (by kernel_rfl) (fun _ _ _ h => h) (Or.inl ⟨by rfl, ?_⟩) (by assumption) ?_
  rotate_left
  · (intro wq hSq; (try dsimp only at hSq); go_simp; try with_reducible rfl)
  try simp only [Act.put, List.setIfInBounds_toArray, List.set_cons_zero, List.set_cons_succ]
  refine wpAnyH_end (by kernel_rfl) ?_
  go_wp2
  go_ret
  refine ⟨?_, hb5⟩
  rw [HN.out]
  rfl
end Go.Proofs.Ytjfmcobikadjhaa
