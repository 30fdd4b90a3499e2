/- Walks: the reference's parameters and width that are valid; the number of parts; powers. -/
import Derived.Test.YtpcpgmgpkegjlaaGF2
import Derived.Test.YtpcpgmgpkegjlaaGB3
namespace Go.Proofs.Ytpcpgmgpkegjlaa
open Go.RowKit Go.Shelf Go.BigFrame
theorem coprB_ok {a b : Nat} (h1 : 3 ≤ b) (h2 : b ≤ 2147483647) : coprB a b = decide (Nat.gcd b (a % b) = 1) := by
  unfold coprB fitsB
  have : a % b < b := Nat.mod_lt _ (by omega)
  simp [this]
  omega
theorem coprTo_mono {chain : List Nat} {k m : Nat} (h : coprTo chain k = false) (hkm : k ≤ m) : coprTo chain m = false := all_range_mono h hkm
theorem coprRow_no {chain : List Nat} {a b j k : Nat} (h : chain[j]? = some b) (hb : coprB a b = false) (hj : j < k) : coprRow chain a k = false := by
  have h1 : coprRow chain a (j + 1) = false := by rw [coprRow_succ _ _ _ _ h, hb]; simp
  unfold coprRow at *
  exact all_range_mono h1 hj
set_option maxRecDepth 100000 in
set_option maxHeartbeats 16000000 in
theorem valid17_any (N pr pw wt er : Int) (cv : Value) (chain : List Nat) (sp : Nat) (width : Int) (w : World) (hr : w.reads w.heap.size cv (chain.map u32V)) (hcb : ∀ q ∈ chain, q < 4294967296) :
    Calls Try.prog 35 #[.agg #[.int .i64 N, .int .u32 pr, .int .i64 pw, cv, .int .u32 (sp : Int), .int .i64 wt, .int .u32 er], .int .i64 width] w (OkPost (madeB N chain sp width) w) := by
  obtain ⟨r, hrr⟩ : ∃ r, r = madeB N chain sp width := ⟨_, rfl⟩
  rw [← hrr]
  have hpost : ∀ e w', e = .returned (.bool r) ∧ Below w.heap.size w w' → OkPost r w e w' := fun _ _ h => h
  have HPOST := Lib.hid hpost
  have HR : Hid (r = (decide (2 ≤ width) && decide (width ≤ 31) && validB N chain sp && coprTo chain chain.length)) := by show _ = _; rw [hrr]; rfl
  clear hpost hrr
  obtain ⟨a, cap, rfl, hcap, hmx, hsh⟩ := reads_u32 hr
  have hl := hr.le_map
  obtain ⟨W0, hW0⟩ : ∃ W0, W0 = w.alloc (.cells #[.int .i64 N, .int .u32 pr, .int .i64 pw, .slice a chain.length cap, .int .u32 (sp : Int), .int .i64 wt, .int .u32 er] 25) := ⟨_, rfl⟩
  have hB0 : Below w.heap.size w W0 := by rw [hW0]; exact (Below.refl _ w).alloc (Nat.le_refl _) _
  have g0 : W0.heap[w.heap.size]? = some (.cells #[.int .i64 N, .int .u32 pr, .int .i64 pw, .slice a chain.length cap, .int .u32 (sp : Int), .int .i64 wt, .int .u32 er] 25) := by rw [hW0]; exact alloc_last _ _ rfl
  have hz0 := lt_of_heap g0
  have HV := Lib.hid (valid09_any N pr pw wt er _ chain sp W0 ((hr.below hB0).mono hB0.size))
  obtain ⟨vb, hvb⟩ : ∃ vb, vb = validB N chain sp := ⟨_, rfl⟩
  rw [← hvb] at HV HR
  obtain ⟨m, hm⟩ : ∃ m, m = chain.length := ⟨_, rfl⟩
  rw [← hm] at hl hcap g0 hW0 HR HV ⊢
  obtain ⟨c0, c1, c2, c3, c4, c5, c6⟩ := par_cells g0
  have HG0 := Lib.hid g0
  have HW0 := Lib.hid hW0
  have HM := Lib.hid hm
  have HVB := Lib.hid hvb
  have HS := Lib.hid hsh
  have HCB := Lib.hid hcb
  clear hr g0 hW0 hm hvb hsh hcb
  unfold OkPost at HV
  cases vb
  case false =>
    obtain rfl : r = false := by rw [HR.out]; simp
    go_enter Try.func35, Try.ntmps35
    go_upto_region 1 with (fail)
    rw [← HW0.out]
    go_wp2_with fail
    refine HV.out.mono ?_
    rintro e w1 ⟨rfl, hb1⟩
    go_wp2
    go_ret
    exact HPOST.out _ _ ⟨rfl, hB0.trans (hb1.mono hB0.size)⟩
  go_enter Try.func35, Try.ntmps35
  go_upto_region 1 with (fail)
  rw [← HW0.out]
  go_wp2_with fail
  refine HV.out.mono ?_
  rintro e w1 ⟨rfl, hb1⟩
  have hBw := hB0.trans (hb1.mono hB0.size)
  by_cases hw1 : 2 ≤ width
  case neg =>
    obtain rfl : r = false := by rw [HR.out]; simp [hw1]
    have : width < 2 := by omega
    clear hw1
    go_wp2
    go_ret
    exact HPOST.out _ _ ⟨rfl, hBw⟩
  by_cases hw2 : width ≤ 31
  case neg =>
    obtain rfl : r = false := by rw [HR.out]; simp [hw2]
    have : 31 < width := by omega
    clear hw2
    go_wp2
    go_ret
    exact HPOST.out _ _ ⟨rfl, hBw⟩
  have hr1 : r = coprTo chain m := by rw [HR.out]; simp [hw1, hw2]
  have HR1 := Lib.hid hr1
  have hg1 := (hb1.block _ hz0).trans HG0.out
  have hcr := chain_ge HVB.out.symm
  have HCR := Lib.hid hcr
  have HS1 : Hid (∀ (j x : Nat), chain[j]? = some x → ∃ b off, a = some ⟨b, off, none⟩ ∧ w1.cell? ⟨b, off + j, none⟩ = some (.int .u32 (x : Int))) := by
    intro j x hj
    obtain ⟨b, off, h1, h2, h3⟩ := HS.out j x hj
    exact ⟨b, off, h1, by rw [hBw.cell (p := ⟨b, off + j, none⟩) h2]; exact h3⟩
  clear c0 c1 c2 c3 c4 c5 c6 HV HW0 HR hr1 hcr
  have c3 := (par_cells hg1).2.2.2.1
  have HI := Lib.hid (fun (a n x y : Nat) hx hy => quiet_add_left (inv05_any x y (w1.drewN (a + n)) hx hy))
  have HBW := Lib.hid hBw
  clear hg1 hBw hB0 hb1
  go_wp2_with fail
  go_loopw [5] (fun i wx => ∃ k n : Nat, k ≤ m ∧ i = .int .i64 (k : Int) ∧ wx = w1.drewN n ∧ Hid (coprTo chain k = true)) (fun i _ => m - (intOf i).toNat)
  case atStart => exact ⟨0, 0, Nat.zero_le _, rfl, rfl, rfl⟩
  case round =>
    obtain ⟨i, n0, hi', rfl, rfl, hok⟩ := hrel
    by_cases hlt : i < m
    · obtain ⟨q, hq⟩ : ∃ x, chain[i]? = some x := ⟨chain[i]'(by rw [← HM.out]; exact hlt), List.getElem?_eq_getElem _⟩
      obtain ⟨b, off, rfl, hc⟩ := HS1.out i q hq
      have hqr := HCR.out q (List.mem_of_getElem? hq)
      have HQ := Lib.hid hq
      clear hq
      have i1 : (0 : Int) ≤ (i : Int) := by omega
      have i2 : (i : Int) < (m : Int) := by omega
      go_wp2_with fail
      go_loopw [6] (fun kk wx => ∃ k n : Nat, k ≤ i ∧ kk = .int .i64 (k : Int) ∧ wx = w1.drewN n ∧ Hid (coprRow chain q k = true)) (fun kk _ => i - (intOf kk).toNat)
      case atStart => exact ⟨0, _, Nat.zero_le _, rfl, rfl, rfl⟩
      case round =>
        obtain ⟨k, n1, hk, rfl, rfl, hno⟩ := hrel
        by_cases hltk : k < i
        · obtain ⟨y, hy⟩ : ∃ x, chain[k]? = some x := ⟨chain[k]'(by rw [← HM.out]; omega), List.getElem?_eq_getElem _⟩
          obtain ⟨b2, off2, hb2, hc2⟩ := HS1.out k y hy
          injection hb2 with hb2
          injection hb2 with hb2a hb2b
          subst hb2a hb2b
          have hyr := HCR.out y (List.mem_of_getElem? hy)
          have hy0 : ¬ y = 0 := by omega
          have HY := Lib.hid hy
          have j1 : (0 : Int) ≤ (k : Int) := by omega
          have j2 : (k : Int) < (m : Int) := by omega
          obtain ⟨t, ht⟩ : ∃ t, t = q % y := ⟨_, rfl⟩
          have htl : t < y := by rw [ht]; exact Nat.mod_lt _ (by omega)
          have e1 : (q : Int).tmod (y : Int) = (t : Int) := by rw [Int.tmod_eq_emod_of_nonneg (by omega), ht]; simp
          obtain ⟨cb, hcb⟩ : ∃ cb, cb = coprB q y := ⟨_, rfl⟩
          have hcb2 := hcb
          rw [coprB_ok hyr.1 hyr.2, ← ht] at hcb2
          have HI1 := Lib.hid (fun n => HI.out n1 n t y (by omega) (by omega))
          simp only [← hcb2] at HI1
          have HCB1 := Lib.hid hcb
          clear hy ht hcb hcb2
          cases cb
          · obtain rfl : r = false := by
              rw [HR1.out]
              exact coprTo_mono (k := i + 1) (by rw [coprTo_succ _ _ _ HQ.out, coprRow_no HY.out HCB1.out.symm hltk]; simp) (by omega)
            go_upto_region 9 with (fail)
            go_quiet ((go_at_call 55; exact HI1.out _))
            go_wp2
            go_ret
            exact HPOST.out _ _ ⟨rfl, below_drewN HBW.out _⟩
          · go_upto_region 9 with (fail)
            go_quiet ((go_at_call 55; exact HI1.out _))
            go_wp2
            go_roundw
            case rel => exact ⟨k + 1, _, by omega, by go_num, rfl, by show _ = _; rw [coprRow_succ _ _ _ _ HY.out, hno.out, ← HCB1.out]; rfl⟩
            case measure => simp [intOf]; omega
        · obtain rfl : k = i := by omega
          have hok2 : Hid (coprTo chain (k + 1) = true) := by
            show _ = _
            rw [coprTo_succ _ _ _ HQ.out, hok.out, hno.out]; rfl
          clear hno hok
          go_wp2
          go_roundw
          case rel => exact ⟨k + 1, _, by omega, by go_num, rfl, hok2⟩
          case measure => simp [intOf]; omega
    · obtain rfl : i = m := by omega
      obtain rfl : r = true := by rw [HR1.out, hok.out]
      clear hok
      go_wp2
      go_ret
      exact HPOST.out _ _ ⟨rfl, below_drewN HBW.out n0⟩
set_option maxHeartbeats 2000000 in
theorem parts_any (width : Int) (h1 : 2 ≤ width) (h2 : width ≤ 31) (w : World) : Calls Try.prog 36 #[.int .i64 width] w fun e w' => e = .returned (.int .i64 (partsI width)) ∧ w = w' := by
  obtain ⟨P, hP⟩ : ∃ P : Nat, partsI width = (P : Int) := ⟨(partsI width).toNat, by have := parts_bound h1 h2; omega⟩
  have hpb := parts_bound h1 h2
  have hc1 : width * ((P : Int) - 1) ≤ 30 ∧ 31 ≤ width * (P : Int) := by
    have a := Int.mul_ediv_add_emod (31 + width - 1) width
    have b := Int.emod_nonneg (31 + width - 1) (show width ≠ 0 by omega)
    have c := Int.emod_lt_of_pos (31 + width - 1) (show 0 < width by omega)
    rw [Int.mul_sub, ← hP]
    unfold partsI
    omega
  rw [hP] at hpb ⊢
  have HC := Lib.hid hc1
  clear hP hc1
  go_enter Try.func36, Try.ntmps36
  go_wp2
  go_loop [3] (fun k => ∃ j : Nat, 1 ≤ j ∧ j ≤ P ∧ k = .int .i64 (j : Int)) (fun k => P - (intOf k).toNat)
  case atStart => exact ⟨1, by omega, by omega, rfl⟩
  case round =>
    obtain ⟨j, hj1, hj2, rfl⟩ := hrel
    obtain ⟨p, hp⟩ : ∃ p : Int, (j : Int) * width = p := ⟨_, rfl⟩
    by_cases hlt : j < P
    · have hlt2 : p < 31 := by
        have h3 : width * (j : Int) ≤ width * ((P : Int) - 1) := Int.mul_le_mul_of_nonneg_left (by omega) (by omega)
        have h4 := HC.out.1
        rw [Int.mul_comm] at hp; omega
      have hp0 : 0 ≤ p := by rw [← hp]; exact Int.mul_nonneg (by omega) (by omega)
      go_wp2
      go_round
      case rel => exact ⟨j + 1, by omega, by omega, by go_num⟩
      case measure => simp [intOf]; omega
    · obtain rfl : j = P := by omega
      have hlt2 : 31 ≤ p := by have h4 := HC.out.2; rw [Int.mul_comm] at hp; omega
      have hp3 : p ≤ 16 * 31 := by rw [← hp]; exact Int.mul_le_mul (by omega) h2 (by omega) (by omega)
      go_wp2
      go_ret
      exact ⟨rfl, rfl⟩
set_option maxHeartbeats 2000000 in
theorem power_any (k : Nat) (hk : k ≤ 62) (w : World) : Calls Try.prog 37 #[.int .i64 (k : Int)] w fun e w' => e = .returned (.int .i64 ((2 ^ k : Nat) : Int)) ∧ w = w' := by
  go_enter Try.func37, Try.ntmps37
  go_wp2
  go_loop [3, 4] (fun o i => ∃ j z : Nat, j ≤ k ∧ i = .int .i64 (j : Int) ∧ o = .int .i64 (z : Int) ∧ Hid (z = 2 ^ j)) (fun _ i => k - (intOf i).toNat)
  case atStart => exact ⟨0, 1, by omega, rfl, rfl, rfl⟩
  case round =>
    obtain ⟨j, z, hj, rfl, rfl, hz⟩ := hrel
    by_cases hlt : j < k
    · have hzb : z ≤ 2305843009213693952 := by
        rw [hz.out]
        have h := Nat.pow_le_pow_right (show 0 < 2 by decide) (show j ≤ 61 by omega)
        simpa using h
      go_wp2
      go_round
      case rel => exact ⟨j + 1, 2 * z, by omega, by go_num, by go_num, by show _ = _; rw [hz.out, Nat.pow_succ]; omega⟩
      case measure => simp [intOf]; omega
    · obtain rfl : j = k := by omega
      have hz2 := hz.out
      subst hz2
      go_wp2
      go_ret
      exact ⟨rfl, rfl⟩
end Go.Proofs.Ytpcpgmgpkegjlaa
