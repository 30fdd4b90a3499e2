/- Walks: the reference's disk: which half is active; the smaller methods. -/
import Derived.Test.YtjfmcobikadjhaaRA4
namespace Go.Proofs.Ytjfmcobikadjhaa
set_option linter.all false
open Go.RowKit Go.Shelf
set_option maxRecDepth 100000 in
set_option maxHeartbeats 4000000 in
theorem ractive_any (p b : Nat) (d : Dk) (w : World) (hd : RDiskAt w p b d) (ho : d.ok) :
    Calls Try.prog 49 #[.pointer (some ⟨p, 0, none⟩)] w fun e w' => e = .returned (.tuple #[.int .i64 d.half, .int .i64 (d.gen : Int)]) ∧ Below w.heap.size w w' := by
  have HG0 := Lib.hid (fun W (h : RDiskAt W p b d) => rgeneration_any p b 0 (by omega) d W h ho)
  have HG1 := Lib.hid (fun W (h : RDiskAt W p b d) => rgeneration_any p b 1 (by omega) d W h ho)
  have HH := Lib.hid hd
  obtain ⟨x, hx⟩ : ∃ x, x = d.half := ⟨_, rfl⟩
  obtain ⟨y, hy⟩ : ∃ y, y = d.gen := ⟨_, rfl⟩
  rw [← hx, ← hy]
  unfold Dk.half at hx
  unfold Dk.gen at hy
  obtain ⟨g0, hg0⟩ : ∃ g, g = genL d.h0 := ⟨_, rfl⟩
  obtain ⟨g1, hg1⟩ : ∃ g, g = genL d.h1 := ⟨_, rfl⟩
  rw [show d.hf 0 = d.h0 from rfl, ← hg0] at HG0
  rw [show d.hf 1 = d.h1 from rfl, ← hg1] at HG1
  rw [← hg0, ← hg1] at hx hy
  have HX := Lib.hid hx
  have HY := Lib.hid hy
  clear hx hy hg0 hg1 hd
  go_enter Try.func49, Try.ntmps49
  go_wp2_with fail
  refine (HG0.out _ HH.out).mono ?_
  rintro e w2 ⟨rfl, hb2⟩
  have HD2 := Lib.hid (HH.out.kept hb2)
  go_wp2_with fail
  refine (HG1.out _ HD2.out).mono ?_
  rintro e w3 ⟨rfl, hb3d⟩
  have hb3 : Below w.heap.size w w3 := hb2.trans (hb3d.mono hb2.size)
  clear hb2 hb3d
  by_cases c0 : g0 = 0
  · by_cases c1 : g1 = 0
    · have t0 : ((g0 : Int) == 0) = true := by simp [c0]
      have t1 : ((g1 : Int) == 0) = true := by simp [c1]
      obtain rfl : x = -1 := by rw [HX.out, if_pos ⟨c0, c1⟩]
      obtain rfl : y = 0 := by rw [HY.out, if_pos ⟨c0, c1⟩]
      go_wp2
      go_ret2
      exact ⟨rfl, hb3⟩
    · have t0 : ((g0 : Int) == 0) = true := by simp [c0]
      have t1 : ((g1 : Int) == 0) = false := by rw [beq_eq_false_iff_ne]; omega
      have t2 : (g0 : Int) < (g1 : Int) := by omega
      obtain rfl : x = 1 := by rw [HX.out, if_neg (by omega), if_pos (by omega)]
      obtain rfl : y = g1 := by rw [HY.out, if_neg (by omega), if_pos (by omega)]
      go_wp2
      go_ret2
      exact ⟨rfl, hb3⟩
  · have t0 : ((g0 : Int) == 0) = false := by rw [beq_eq_false_iff_ne]; omega
    by_cases c2 : g0 < g1
    · have t2 : (g0 : Int) < (g1 : Int) := by omega
      obtain rfl : x = 1 := by rw [HX.out, if_neg (by omega), if_pos c2]
      obtain rfl : y = g1 := by rw [HY.out, if_neg (by omega), if_pos c2]
      go_wp2
      go_ret2
      exact ⟨rfl, hb3⟩
    · have t2 : ¬ (g0 : Int) < (g1 : Int) := by omega
      obtain rfl : x = 0 := by rw [HX.out, if_neg (by omega), if_neg c2]
      obtain rfl : y = g0 := by rw [HY.out, if_neg (by omega), if_neg c2]
      go_wp2
      go_ret2
      exact ⟨rfl, hb3⟩
theorem rresult_any (p b : Nat) (d : Dk) (w : World) (hd : RDiskAt w p b d) :
    Calls Try.prog 53 #[.pointer (some ⟨p, 0, none⟩)] w fun e w' => e = .returned (.int .i64 (if d.failed = true then 9 else 0)) ∧ w = w' := by
  obtain ⟨-, -, -, k3, -, -⟩ := four_cells hd.at_
  cases hf : d.failed
  · rw [hf] at k3
    go_enter Try.func53, Try.ntmps53
    go_wp2
    go_ret
    exact ⟨rfl, rfl⟩
  · rw [hf] at k3
    go_enter Try.func53, Try.ntmps53
    go_wp2
    go_ret
    exact ⟨rfl, rfl⟩
theorem rFailed_any (p b : Nat) (d : Dk) (w : World) (hd : RDiskAt w p b d) :
    Calls Try.prog 42 #[.pointer (some ⟨p, 0, none⟩)] w fun e w' => e = .returned (.bool d.failed) ∧ w = w' := by
  obtain ⟨-, -, -, k3, -, -⟩ := four_cells hd.at_
  go_enter Try.func42, Try.ntmps42
  go_wp2
  go_ret
  exact ⟨rfl, rfl⟩
theorem rFuse_any (p b : Nat) (d : Dk) (n : Int) (w : World) (hd : RDiskAt w p b d) :
    Calls Try.prog 37 #[.pointer (some ⟨p, 0, none⟩), .int .i64 n] w fun e w' => e = .returned (.int .i64 (d.fused n).1) ∧ RDiskAt w' p b (d.fused n).2 ∧ Kp (two p b) w w' := by
  obtain ⟨-, -, k2, -, f2, -⟩ := four_cells hd.at_
  have HD := Lib.hid hd
  clear hd
  by_cases hn : n < -1
  · have h1 : d.fused n = (2, d) := if_pos hn
    rw [h1]
    go_enter Try.func37, Try.ntmps37
    go_wp2
    go_ret
    exact ⟨rfl, HD.out, Kp.refl _ _⟩
  · have h1 : d.fused n = (0, { d with fuse := n }) := if_neg hn
    rw [h1]
    go_enter Try.func37, Try.ntmps37
    go_wp2
    go_ret
    refine ⟨rfl, ⟨?_, ?_, HD.out.ne⟩, (Kp.refl _ w).setCell (Or.inl rfl) _⟩
    · simp [World.setCell, Array.getElem?_modify, HD.out.at_]
    · obtain ⟨t, ht⟩ := HD.out.half; exact ⟨t, (Below.heap_setCell w ⟨p, 2, none⟩ _ b HD.out.ne).trans ht⟩
theorem rRestart_any (p b : Nat) (d : Dk) (w : World) (hd : RDiskAt w p b d) :
    Calls Try.prog 38 #[.pointer (some ⟨p, 0, none⟩)] w fun e w' => (∃ v, e = .returned v) ∧ RDiskAt w' p b { d with fuse := -1, failed := false } ∧ Kp (two p b) w w' := by
  obtain ⟨-, -, k2, k3, f2, f3⟩ := four_cells hd.at_
  have HD := Lib.hid hd
  clear hd
  go_enter Try.func38, Try.ntmps38
  go_wp2
  go_end0
  refine ⟨⟨_, rfl⟩, ⟨?_, ?_, HD.out.ne⟩, ((Kp.refl _ w).setCell (Or.inl rfl) _).setCell (Or.inl rfl) _⟩
  · simp [World.setCell, Array.getElem?_modify, HD.out.at_]
  · obtain ⟨t, ht⟩ := HD.out.half; exact ⟨t, ((Below.heap_setCell _ ⟨p, 3, none⟩ _ b HD.out.ne).trans (Below.heap_setCell w ⟨p, 2, none⟩ _ b HD.out.ne)).trans ht⟩
end Go.Proofs.Ytjfmcobikadjhaa
