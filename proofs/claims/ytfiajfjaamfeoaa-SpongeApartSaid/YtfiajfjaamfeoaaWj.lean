/- Walks: what the statements share. -/
import Derived.Test.YtfiajfjaamfeoaaWi
import Derived.Test.YtfiajfjaamfeoaaEq
namespace Go.Proofs.Ytfiajfjaamfeoaa
open Go.RowKit
attribute [local go_sem] eq23
theorem perm_zero : (St.perm 1 ⟨wof 0, wof 0, wof 0, wof 0, wof 0⟩).val = .agg #[.int .u64 2643981867417675, .int .u64 2516582931, .int .u64 6052837899185946512, .int .u64 1361635199837798475, .int .u64 0] := by
  have h : wv (St.perm 1 ⟨wof 0, wof 0, wof 0, wof 0, wof 0⟩).a = 2643981867417675 ∧ wv (St.perm 1 ⟨wof 0, wof 0, wof 0, wof 0, wof 0⟩).b = 2516582931 ∧ wv (St.perm 1 ⟨wof 0, wof 0, wof 0, wof 0, wof 0⟩).c = 6052837899185946512 ∧
      wv (St.perm 1 ⟨wof 0, wof 0, wof 0, wof 0, wof 0⟩).d = 1361635199837798475 ∧ wv (St.perm 1 ⟨wof 0, wof 0, wof 0, wof 0, wof 0⟩).e = 0 := by decide +kernel
  obtain ⟨h1, h2, h3, h4, h5⟩ := h
  rw [St.val, h1, h2, h3, h4, h5]
theorem Permute_zero (w : World) :
    Calls Try.prog 7 #[.agg #[.int .u64 0, .int .u64 0, .int .u64 0, .int .u64 0, .int .u64 0], .int .i64 1] w fun e w' =>
      e = .returned (.tuple #[.agg #[.int .u64 2643981867417675, .int .u64 2516582931, .int .u64 6052837899185946512, .int .u64 1361635199837798475, .int .u64 0], .int .i64 0]) ∧ Below w.heap.size w w' := by
  have h := Permute_ok ⟨wof 0, wof 0, wof 0, wof 0, wof 0⟩ 1 (by omega) w
  rw [show (1 : Int).toNat = 1 from rfl, perm_zero] at h
  exact h
theorem Permute_thirteen (w : World) :
    Calls Try.prog 7 #[.agg #[.int .u64 0, .int .u64 0, .int .u64 0, .int .u64 0, .int .u64 0], .int .i64 13] w fun e w' =>
      e = .returned (.tuple #[.agg #[.int .u64 0, .int .u64 0, .int .u64 0, .int .u64 0, .int .u64 0], .int .i64 2]) ∧ Below w.heap.size w w' :=
  Permute_bad ⟨wof 0, wof 0, wof 0, wof 0, wof 0⟩ 13 (by omega) w
theorem Stream_zero (s : ByteArray) (hs : s.size ≤ 140737488351232) (w : World) :
    Calls Try.prog 11 #[.string s, .int .i64 0] w fun e w' => e = .returned (.tuple #[.string ByteArray.empty, .int .i64 0]) ∧ Below w.heap.size w w' := by
  have h := Stream_ok s hs 0 (by omega) w
  rw [show runB s 1 (0 : Int).toNat = ByteArray.empty from rfl] at h
  exact h
theorem runB_size (s : ByteArray) (kd n : Nat) : (runB s kd n).size = n := by
  show ((St.squeeze (St.start s kd) ((n + 7) / 8)).take n).toArray.size = n
  simp [squeeze_length]; omega
set_option maxRecDepth 100000 in
set_option maxHeartbeats 2000000 in
theorem shown_any (w : World) : Calls Try.prog 9 #[] w fun e w' => e = .returned (.bool true) ∧ Below w.heap.size w w' := by
  have h32 := runB_size ⟨#[]⟩ 0 32
  have h8 := runB_size ⟨#[]⟩ 0 8
  go_enter Try.func9, Try.ntmps9
  go_wp2_with fail
  refine (Permute_zero _).mono ?_
  rintro e w1 ⟨rfl, hb1⟩
  have hs1 := hb1.size
  go_wp2_with fail
  refine (Permute_thirteen _).mono ?_
  rintro e w2 ⟨rfl, hb2⟩
  have hs2 := hb2.size
  have hx2 := (hb2.block w1.heap.size (by simp)).trans (alloc_last w1 _ rfl)
  simp only [World.size_alloc] at hs2
  have hB2 : Below w.heap.size w w2 := (hb1.alloc hs1 _).trans (hb2.mono (by simp; omega))
  clear hb2 hb1
  go_wp2_with fail
  refine (Stream_zero _ (by decide) _).mono ?_
  rintro e w3 ⟨rfl, hb3⟩
  have hs3 := hb3.size
  have hx3 := (hb3.block w1.heap.size (by simp; omega)).trans ((Below.heap_alloc w2 _ _ (by omega)).trans hx2)
  have hB3 : Below w.heap.size w w3 := (hB2.alloc hB2.size _).trans (hb3.mono (by have := hB2.size; simp; omega))
  clear hb3 hs3
  obtain ⟨c0, c1, c2, c3, c4, f0, f1, f2, f3, f4, z0⟩ := five_cells hx3
  clear hx2 hx3
  go_wp2_with fail
  refine (Digest_any _ (by decide) _).mono ?_
  rintro e w4 ⟨rfl, hb4⟩
  have hB4 : Below w.heap.size w w4 := hB3.trans (hb4.mono hB3.size)
  go_wp2_with fail
  refine (Short_any _ (by decide) _).mono ?_
  rintro e w5 ⟨rfl, hb5⟩
  have hB5 : Below w.heap.size w w5 := hB4.trans (hb5.mono hB4.size)
  go_wp2_with fail
  go_ret
  exact ⟨rfl, hB5⟩
theorem pick_neg (n m : Int) (hm : 0 < m) (h : n.tmod m < 0) : n.tmod m + m = n % m := by
  have h1 := Int.tmod_eq_emod (a := n) (b := m)
  have h2 := Int.emod_nonneg n (show m ≠ 0 by omega)
  have h3 := Int.emod_lt_of_pos n hm
  split at h1 <;> omega
theorem pick_pos (n m : Int) (hm : 0 < m) (h : ¬ n.tmod m < 0) : n.tmod m = n % m := by
  have h1 := Int.tmod_eq_emod (a := n) (b := m)
  have h2 := Int.emod_nonneg n (show m ≠ 0 by omega)
  have h3 := Int.emod_lt_of_pos n hm
  split at h1 <;> omega
theorem Pick_any (n m : Int) (hm : 0 < m ∧ m ≤ 1000000) (w : World) :
    Calls Try.prog 10 #[.int .i64 n, .int .i64 m] w fun e w' => e = .returned (.int .i64 (n % m)) ∧ w = w' := by
  have h2 := Int.emod_nonneg n (show m ≠ 0 by omega)
  have h3 := Int.emod_lt_of_pos n hm.1
  have hne : (m == 0) = false := by simp; omega
  by_cases h : n.tmod m < 0
  · have hp := pick_neg n m hm.1 h
    have h0 : ¬ 0 ≤ n.tmod m := by omega
    go_enter Try.func10, Try.ntmps10
    go_wp2
    go_ret
    exact ⟨rfl, rfl⟩
  · have hp := pick_pos n m hm.1 h
    have h0 : 0 ≤ n.tmod m := by omega
    go_enter Try.func10, Try.ntmps10
    go_wp2
    go_ret
    exact ⟨rfl, rfl⟩
set_option maxRecDepth 100000 in
set_option maxHeartbeats 2000000 in
theorem permutes_law (x : St) (n : Int) (w : World) :
    Calls Try.prog 3 #[x.val, .int .i64 n] w fun e w' => e = .returned (.bool true) ∧ Below w.heap.size w w' := by
  obtain ⟨r, hr⟩ : ∃ r : St × Int, r = (if 1 ≤ n ∧ n ≤ 12 then (St.perm n.toNat x, 0) else (⟨wof 0, wof 0, wof 0, wof 0, wof 0⟩, 2)) := ⟨_, rfl⟩
  have hp : ∀ w, Calls Try.prog 7 #[x.val, .int .i64 n] w fun e w' => e = .returned (.tuple #[r.1.val, .int .i64 r.2]) ∧ Below w.heap.size w w' := by
    intro w
    by_cases h : 1 ≤ n ∧ n ≤ 12
    · rw [hr, if_pos h]; exact Permute_ok x n h w
    · rw [hr, if_neg h]; exact Permute_bad x n (by omega) w
  have hq : ∀ w, Calls Try.prog 8 #[x.val, .int .i64 n] w fun e w' => e = .returned (.tuple #[r.1.val, .int .i64 r.2]) ∧ Below w.heap.size w w' := by
    intro w
    by_cases h : 1 ≤ n ∧ n ≤ 12
    · rw [hr, if_pos h]; exact refPermute_ok x n h w
    · rw [hr, if_neg h]; exact refPermute_bad x n (by omega) w
  have HP := Lib.hid hp
  have HQ := Lib.hid hq
  clear hp hq hr
  obtain ⟨y, m⟩ := r
  go_enter Try.func3, Try.ntmps3
  go_wp2_with fail
  refine (HP.out _).mono ?_
  rintro e w1 ⟨rfl, hb1⟩
  have hs1 := hb1.size
  have hx1 := (hb1.block w.heap.size (by simp)).trans (alloc_last w _ rfl)
  simp only [World.size_alloc] at hs1
  have hB1 : Below w.heap.size w w1 := ((Below.refl _ w).alloc (Nat.le_refl _) _).trans (hb1.mono (by simp))
  obtain ⟨c0, c1, c2, c3, c4, f0, f1, f2, f3, f4, z0⟩ := five_cells hx1
  clear hb1
  go_wp2_with fail
  refine (HQ.out _).mono ?_
  rintro e w2 ⟨rfl, hb2⟩
  have hs2 := hb2.size
  have hx2 := (hb2.block w1.heap.size (by simp)).trans (alloc_last w1 _ rfl)
  simp only [World.size_alloc] at hs2
  have hB2 : Below w.heap.size w w2 := (hB1.alloc hB1.size _).trans (hb2.mono (by simp; omega))
  obtain ⟨d0, d1, d2, d3, d4, e0, e1, e2, e3, e4, y0⟩ := five_cells hx2
  clear hb2 c0 c1 c2 c3 c4
  go_wp2_with fail
  refine (shown_any _).mono ?_
  rintro e w3 ⟨rfl, hb3⟩
  go_wp2
  go_ret
  exact ⟨rfl, (hB2.alloc hB2.size _).trans (hb3.mono (by have := hB2.size; simp; omega))⟩
end Go.Proofs.Ytfiajfjaamfeoaa
