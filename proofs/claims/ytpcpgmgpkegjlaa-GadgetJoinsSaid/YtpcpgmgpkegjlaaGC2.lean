/- Walks: two elements are the same. -/
import Derived.Test.YtpcpgmgpkegjlaaGC1
namespace Go.Proofs.Ytpcpgmgpkegjlaa
open Go.RowKit Go.Shelf Go.BigFrame
set_option maxRecDepth 100000 in
set_option maxHeartbeats 8000000 in
theorem same09_any (l1 l2 : Int) (s1 s2 : Bool) (v1 v2 : Value) (xs ys : List (List Nat)) (B1 B2 : Nat) (w : World) (h1 : w.rows u32V B1 v1 xs) (h2 : w.rows u32V B2 v2 ys) (hB1 : B1 ≤ w.heap.size) (hB2 : B2 ≤ w.heap.size) :
    Calls Try.prog 15 #[.agg #[.int .i64 l1, .bool s1, v1], .agg #[.int .i64 l2, .bool s2, v2]] w fun e w' => e = .returned (.bool (decide (l1 = l2) && decide (s1 = s2) && decide (xs = ys))) ∧ Below w.heap.size w w' := by
  have hl1 := h1.le
  have hl2 := h2.le
  obtain ⟨a1, c1, rfl, hc1, hm1, hs1⟩ := h1.shape
  obtain ⟨a2, c2, rfl, hc2, hm2, hs2⟩ := h2.shape
  obtain ⟨W0, hW0⟩ : ∃ W0, W0 = (w.alloc (.cells #[.int .i64 l1, .bool s1, .slice a1 xs.length c1] 28)).alloc (.cells #[.int .i64 l2, .bool s2, .slice a2 ys.length c2] 28) := ⟨_, rfl⟩
  have hB0 : Below w.heap.size w W0 := by rw [hW0]; exact ((Below.refl _ w).alloc (Nat.le_refl _) _).alloc (by simp) _
  have g1 : W0.heap[w.heap.size]? = some (.cells #[.int .i64 l1, .bool s1, .slice a1 xs.length c1] 28) := by
    rw [hW0, Below.heap_alloc _ _ _ (by simp)]; exact alloc_last _ _ rfl
  have g2 : W0.heap[w.heap.size + 1]? = some (.cells #[.int .i64 l2, .bool s2, .slice a2 ys.length c2] 28) := by
    rw [hW0]; exact alloc_last _ _ (by simp)
  obtain ⟨hcw, -⟩ := bcell hB0
  obtain ⟨k0, k1, k2, -, -, -⟩ := elem_cells g1
  obtain ⟨j0, j1, j2, -, -, -⟩ := elem_cells g2
  have HW0 := Lib.hid hW0
  have HS1 : Hid (∀ (j : Nat) (r : List Nat), xs[j]? = some r → ∃ b off b2 c2, a1 = some ⟨b, off, none⟩ ∧ W0.cell? ⟨b, off + j, none⟩ = some (.slice b2 r.length c2) ∧ W0.reads w.heap.size (.slice b2 r.length c2) (r.map u32V)) := by
    intro j r hj
    obtain ⟨b, off, b2, c2, h1, h2, h3, h4⟩ := hs1 j r hj
    exact ⟨b, off, b2, c2, h1, by rw [hcw _ _ (by omega)]; exact h3, (h4.mono hB1).below hB0⟩
  have HS2 : Hid (∀ (j : Nat) (r : List Nat), ys[j]? = some r → ∃ b off b2 c2, a2 = some ⟨b, off, none⟩ ∧ W0.cell? ⟨b, off + j, none⟩ = some (.slice b2 r.length c2) ∧ W0.reads w.heap.size (.slice b2 r.length c2) (r.map u32V)) := by
    intro j r hj
    obtain ⟨b, off, b2, c2, h1, h2, h3, h4⟩ := hs2 j r hj
    exact ⟨b, off, b2, c2, h1, by rw [hcw _ _ (by omega)]; exact h3, (h4.mono hB2).below hB0⟩
  obtain ⟨r, hr⟩ : ∃ r, r = (decide (l1 = l2) && decide (s1 = s2) && decide (xs = ys)) := ⟨_, rfl⟩
  rw [← hr]
  obtain ⟨m, hm⟩ : ∃ m, m = ys.length := ⟨_, rfl⟩
  obtain ⟨l, hl⟩ : ∃ l, l = xs.length := ⟨_, rfl⟩
  rw [← hm] at hl2 hc2 j2
  rw [← hl] at hl1 hc1 k2
  rw [← hm, ← hl] at hW0
  have HW0 := Lib.hid hW0
  have HR := Lib.hid hr
  have HM := Lib.hid hm
  have HL := Lib.hid hl
  rw [← hm, ← hl]
  clear hs1 hs2 hcw g1 g2 h1 h2 hr hm hl hW0
  by_cases hl12 : l1 = l2
  · subst hl12
    have t1 : (l1 != l1) = false := by simp
    by_cases hs12 : s1 = s2
    · subst hs12
      have t2 : (s1 != s1) = false := by simp
      by_cases hlm : l = m
      · subst hlm
        have t3 : ((l : Int) != (l : Int)) = false := by simp
        have HR2 : Hid (r = decide (xs = ys)) := by show _ = _; rw [HR.out]; simp
        clear HR
        go_enter Try.func15, Try.ntmps15
        go_upto_region 1 with (fail)
        rw [← HW0.out]
        go_wp2
        go_loopw [5] (fun i wx => ∃ k n : Nat, k ≤ l ∧ i = .int .i64 (k : Int) ∧ wx = W0.drewN n ∧ Hid (xs.take k = ys.take k)) (fun i _ => l - (intOf i).toNat)
        case atStart => exact ⟨0, 0, Nat.zero_le _, rfl, rfl, by show _ = _; simp⟩
        case round =>
          obtain ⟨k, n0, hk, rfl, rfl, hall⟩ := hrel
          by_cases hlt : k < l
          · obtain ⟨x, hx⟩ : ∃ x, xs[k]? = some x := ⟨xs[k]'(by have := HL.out; omega), List.getElem?_eq_getElem _⟩
            obtain ⟨y, hy⟩ : ∃ x, ys[k]? = some x := ⟨ys[k]'(by have := HM.out; omega), List.getElem?_eq_getElem _⟩
            obtain ⟨b1, o1, p1, d1, rfl, hcx, hrx⟩ := HS1.out k x hx
            obtain ⟨b2, o2, p2, d2, rfl, hcy, hry⟩ := HS2.out k y hy
            have HX := Lib.hid hx
            have HY := Lib.hid hy
            have i1 : (0 : Int) ≤ (k : Int) := by omega
            have i2 : (k : Int) < (l : Int) := by omega
            have HSM := Lib.hid (fun n => same5_any _ _ x y _ _ ((W0.drewN n0).drewN n) ((hrx.drewN n0).drewN n) ((hry.drewN n0).drewN n))
            have hcx' : (W0.drewN n0).cell? ⟨b1, o1 + k, none⟩ = some (.slice p1 x.length d1) := hcx
            have hcy' : (W0.drewN n0).cell? ⟨b2, o2 + k, none⟩ = some (.slice p2 y.length d2) := hcy
            have k2' : (W0.drewN n0).cell? ⟨w.heap.size, 2, none⟩ = some (.slice (some ⟨b1, o1, none⟩) l c1) := k2
            have j2' : (W0.drewN n0).cell? ⟨w.heap.size + 1, 2, none⟩ = some (.slice (some ⟨b2, o2, none⟩) l c2) := j2
            have hBq : Below w.heap.size w (W0.drewN n0) := below_drewN hB0 _
            clear hx hy hrx hry hcx hcy k0 k1 k2 j0 j1 j2 hB0
            obtain ⟨wq, hwq⟩ : ∃ wq, wq = W0.drewN n0 := ⟨_, rfl⟩
            rw [← hwq] at hcx' hcy' k2' j2' HSM hBq ⊢
            have HWQ := Lib.hid hwq
            clear hwq
            by_cases hxy : x = y
            · subst hxy
              have hdt : decide (x = x) = true := by simp
              rw [hdt] at HSM
              go_upto_region 6 with (fail)
              go_quiet ((go_at_call 34; exact quiet_drew (HSM.out _)))
              go_wp2
              go_roundw
              case rel => exact ⟨k + 1, _, by omega, by go_num, by rw [HWQ.out, World.drewN_drewN], take_eq_succ _ _ _ _ hall.out HX.out HY.out⟩
              case measure => simp [intOf]; omega
            · have hdt : decide (x = y) = false := by simp [hxy]
              rw [hdt] at HSM
              obtain rfl : r = false := by
                rw [HR2.out, decide_eq_false_iff_not]
                intro e
                have h3 := HX.out
                rw [e, HY.out] at h3
                exact hxy (by simpa using h3.symm)
              go_upto_region 6 with (fail)
              go_quiet ((go_at_call 34; exact quiet_drew (HSM.out _)))
              go_wp2
              go_ret
              exact ⟨rfl, below_drewN hBq _⟩
          · obtain rfl : k = l := by omega
            have h2 := hall.out
            rw [List.take_of_length_le (by have := HL.out; omega), List.take_of_length_le (by have := HM.out; omega)] at h2
            obtain rfl : r = true := by rw [HR2.out]; simp [h2]
            clear h2 hall
            go_wp2
            go_ret
            exact ⟨rfl, by first | exact below_drewN hB0 _ | exact hB0⟩
      · have t3 : ((l : Int) != (m : Int)) = true := by rw [bne_iff_ne]; omega
        obtain rfl : r = false := by
          rw [HR.out]
          have : ¬ xs = ys := fun e => hlm (by rw [HL.out, HM.out, e])
          simp [this]
        clear hlm
        go_enter Try.func15, Try.ntmps15
        go_upto_region 1 with (fail)
        rw [← HW0.out]
        go_wp2
        go_ret
        exact ⟨rfl, hB0⟩
    · have t2 : (s1 == s2) = false := by rw [beq_eq_false_iff_ne]; exact hs12
      obtain rfl : r = false := by rw [HR.out]; simp [hs12]
      clear hs12
      go_enter Try.func15, Try.ntmps15
      go_upto_region 1 with (fail)
      rw [← HW0.out]
      go_wp2
      go_ret
      exact ⟨rfl, hB0⟩
  · have t1 : (l1 != l2) = true := by rw [bne_iff_ne]; exact hl12
    obtain rfl : r = false := by rw [HR.out]; simp [hl12]
    clear hl12
    go_enter Try.func15, Try.ntmps15
    go_upto_region 1 with (fail)
    rw [← HW0.out]
    go_wp2
    go_ret
    exact ⟨rfl, hB0⟩
end Go.Proofs.Ytpcpgmgpkegjlaa
