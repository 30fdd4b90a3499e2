/- Walks: the reference's number of digits, and their bound. -/
import Derived.Test.YtpcpgmgpkegjlaaGF3

namespace Go.Proofs.Ytpcpgmgpkegjlaa
open Go.RowKit Go.Shelf Go.BigFrame
theorem power31 (width : Int) (h1 : 2 ≤ width) (h2 : width ≤ 31) : ∃ k : Nat, width = (k : Int) + 1 ∧ k ≤ 30 ∧ (2 : Int) ^ (width - 1).toNat = ((2 ^ k : Nat) : Int) := by
  refine ⟨(width - 1).toNat, by omega, by omega, by simp⟩
set_option maxRecDepth 100000 in
set_option maxHeartbeats 4000000 in
theorem rcount_any (N pr pw wt er : Int) (cv : Value) (chain : List Nat) (sp : Nat) (width level : Int) (w : World) (hr : w.reads w.heap.size cv (chain.map u32V)) (hcb : ∀ q ∈ chain, q < 4294967296) :
    Calls Try.prog 16 #[.agg #[.int .i64 N, .int .u32 pr, .int .i64 pw, cv, .int .u32 (sp : Int), .int .i64 wt, .int .u32 er], .int .i64 width, .int .i64 level] w
      fun e w' => e = .returned (.tuple #[.int .i64 (countI width level (countB N chain sp width level)), .int .i64 (errI (countB N chain sp width level))]) ∧ Below w.heap.size w w' := by
  obtain ⟨r, hrr⟩ : ∃ r, r = countB N chain sp width level := ⟨_, rfl⟩
  rw [← hrr]
  unfold countB at hrr
  obtain ⟨a, cap, rfl, hcap, hmx, -⟩ := reads_u32 hr
  have hl := hr.le_map
  obtain ⟨W0, hW0⟩ : ∃ W0, W0 = w.alloc (.cells #[.int .i64 N, .int .u32 pr, .int .i64 pw, .slice a chain.length cap, .int .u32 (sp : Int), .int .i64 wt, .int .u32 er] 25) := ⟨_, rfl⟩
  have hB0 : Below w.heap.size w W0 := by rw [hW0]; exact (Below.refl _ w).alloc (Nat.le_refl _) _
  have g0 : W0.heap[w.heap.size]? = some (.cells #[.int .i64 N, .int .u32 pr, .int .i64 pw, .slice a chain.length cap, .int .u32 (sp : Int), .int .i64 wt, .int .u32 er] 25) := by rw [hW0]; exact alloc_last _ _ rfl
  have hz0 := lt_of_heap g0
  have HV := Lib.hid (valid17_any N pr pw wt er _ chain sp width W0 ((hr.below hB0).mono hB0.size) hcb)
  unfold OkPost at HV
  obtain ⟨mb, hmb⟩ : ∃ mb, mb = madeB N chain sp width := ⟨_, rfl⟩
  rw [← hmb] at HV hrr
  have HMB := Lib.hid hmb
  have HR := Lib.hid hrr
  obtain ⟨m, hm⟩ : ∃ m, m = chain.length := ⟨_, rfl⟩
  rw [← hm] at hl hcap g0 hW0 HV ⊢
  have HM := Lib.hid hm
  obtain ⟨c0, c1, c2, c3, c4, c5, c6⟩ := par_cells g0
  have HG0 := Lib.hid g0
  have HW0 := Lib.hid hW0
  clear hr g0 hW0 hm hmb hrr hcb
  cases mb
  · obtain rfl : r = false := by rw [HR.out]; rfl
    go_enter Try.func16, Try.ntmps16
    go_upto_region 1 with (fail)
    rw [← HW0.out]
    go_wp2_with fail
    refine HV.out.mono ?_
    rintro e w1 ⟨rfl, hb1⟩
    go_wp2
    go_ret2
    exact ⟨rfl, hB0.trans (hb1.mono hB0.size)⟩
  · have hlv : r = levB chain.length level := by rw [HR.out]; rfl
    unfold levB at hlv
    rw [← HM.out] at hlv
    obtain ⟨h1, h2, h3, h4⟩ := madeB_parts HMB.out.symm
    have hpb := parts_bound h1 h2
    have h24 := (validB_len h3).2
    rw [← HM.out] at h24
    have HLV := Lib.hid hlv
    clear h3 h4 hlv
    go_enter Try.func16, Try.ntmps16
    go_upto_region 1 with (fail)
    rw [← HW0.out]
    go_wp2_with fail
    refine HV.out.mono ?_
    rintro e w1 ⟨rfl, hb1⟩
    have hBw := hB0.trans (hb1.mono hB0.size)
    have hg1 := (hb1.block _ hz0).trans HG0.out
    clear c0 c1 c2 c3 c4 c5 c6
    have c3 := (par_cells hg1).2.2.2.1
    clear hg1 hb1
    by_cases k1 : 1 ≤ level
    case neg =>
      obtain rfl : r = false := by rw [HLV.out]; simp [k1]
      have : level < 1 := by omega
      clear k1
      go_wp2
      go_ret2
      exact ⟨rfl, hBw⟩
    by_cases k2 : level ≤ (m : Int)
    case neg =>
      obtain rfl : r = false := by rw [HLV.out]; simp [k2]
      have : (m : Int) < level := by omega
      clear k2
      go_wp2
      go_ret2
      exact ⟨rfl, hBw⟩
    obtain rfl : r = true := by rw [HLV.out]; simp [k1, k2]
    have hmul1 : 0 ≤ level * partsI width := Int.mul_nonneg (by omega) (by omega)
    have hmul2 : level * partsI width ≤ 24 * 16 := Int.mul_le_mul (by omega) (by omega) (by omega) (by omega)
    go_wp2_with fail
    refine (parts_any width h1 h2 w1).mono ?_
    rintro e w2 ⟨rfl, rfl⟩
    go_wp2
    go_ret2
    exact ⟨rfl, hBw⟩
set_option maxRecDepth 100000 in
set_option maxHeartbeats 4000000 in
theorem rbound_any (N pr pw wt er : Int) (cv : Value) (chain : List Nat) (sp : Nat) (width : Int) (w : World) (hr : w.reads w.heap.size cv (chain.map u32V)) (hcb : ∀ q ∈ chain, q < 4294967296) :
    Calls Try.prog 17 #[.agg #[.int .i64 N, .int .u32 pr, .int .i64 pw, cv, .int .u32 (sp : Int), .int .i64 wt, .int .u32 er], .int .i64 width] w
      fun e w' => e = .returned (.tuple #[.int .i64 (boundR chain width (madeB N chain sp width)), .int .i64 (errI (madeB N chain sp width))]) ∧ Below w.heap.size w w' := by
  obtain ⟨a, cap, rfl, hcap, hmx, hsh⟩ := reads_u32 hr
  have hl := hr.le_map
  obtain ⟨W0, hW0⟩ : ∃ W0, W0 = w.alloc (.cells #[.int .i64 N, .int .u32 pr, .int .i64 pw, .slice a chain.length cap, .int .u32 (sp : Int), .int .i64 wt, .int .u32 er] 25) := ⟨_, rfl⟩
  have hB0 : Below w.heap.size w W0 := by rw [hW0]; exact (Below.refl _ w).alloc (Nat.le_refl _) _
  have g0 : W0.heap[w.heap.size]? = some (.cells #[.int .i64 N, .int .u32 pr, .int .i64 pw, .slice a chain.length cap, .int .u32 (sp : Int), .int .i64 wt, .int .u32 er] 25) := by rw [hW0]; exact alloc_last _ _ rfl
  have hz0 := lt_of_heap g0
  have HV := Lib.hid (valid17_any N pr pw wt er _ chain sp width W0 ((hr.below hB0).mono hB0.size) hcb)
  unfold OkPost at HV
  obtain ⟨mb, hmb⟩ : ∃ mb, mb = madeB N chain sp width := ⟨_, rfl⟩
  rw [← hmb] at HV ⊢
  have HMB := Lib.hid hmb
  have HS := Lib.hid hsh
  have HCB := Lib.hid hcb
  obtain ⟨m, hm⟩ : ∃ m, m = chain.length := ⟨_, rfl⟩
  rw [← hm] at hl hcap g0 hW0 HV ⊢
  have HM := Lib.hid hm
  obtain ⟨c0, c1, c2, c3, c4, c5, c6⟩ := par_cells g0
  have HG0 := Lib.hid g0
  have HW0 := Lib.hid hW0
  clear hr g0 hW0 hm hmb hsh hcb
  cases mb
  · go_enter Try.func17, Try.ntmps17
    go_upto_region 1 with (fail)
    rw [← HW0.out]
    go_wp2_with fail
    refine HV.out.mono ?_
    rintro e w1 ⟨rfl, hb1⟩
    go_wp2
    go_ret2
    exact ⟨rfl, hB0.trans (hb1.mono hB0.size)⟩
  obtain ⟨h1, h2, h3, h4⟩ := madeB_parts HMB.out.symm
  have h24 := (validB_len h3).2
  rw [← HM.out] at h24
  have hmp := maxL_pos h3
  have HCG := Lib.hid (chain_ge h3)
  clear h3 h4
  obtain ⟨kk, hkk, hk30, hpow⟩ := power31 width h1 h2
  by_cases h31 : width < 31
  · have hbd : boundR chain width true = ((2 ^ kk : Nat) : Int) := by unfold boundR boundI; rw [if_pos rfl, if_pos h31]; exact hpow
    rw [hbd]
    have HP := Lib.hid (fun W => power_any kk (by omega) W)
    obtain ⟨pz, hpz⟩ : ∃ pz, pz = 2 ^ kk := ⟨_, rfl⟩
    rw [← hpz] at HP ⊢
    clear hbd hpow hpz
    subst hkk
    go_enter Try.func17, Try.ntmps17
    go_upto_region 1 with (fail)
    rw [← HW0.out]
    go_wp2_with fail
    refine HV.out.mono ?_
    rintro e w1 ⟨rfl, hb1⟩
    have hBw := hB0.trans (hb1.mono hB0.size)
    go_wp2_with fail
    refine (HP.out w1).mono ?_
    rintro e w2 ⟨rfl, rfl⟩
    go_wp2
    go_ret2
    exact ⟨rfl, hBw⟩
  · have hbd : boundR chain width true = (((maxL chain - 1) / 2 : Nat) : Int) := by unfold boundR boundI; rw [if_pos rfl, if_neg h31]; omega
    obtain ⟨bb, hbb⟩ : ∃ bb : Nat, bb = (maxL chain - 1) / 2 := ⟨_, rfl⟩
    rw [hbd, ← hbb]
    have HBB := Lib.hid hbb
    clear hbd hpow hkk hbb
    have hmx2 := maxL_lt chain 4294967296 (by omega) HCB.out
    go_enter Try.func17, Try.ntmps17
    go_upto_region 1 with (fail)
    rw [← HW0.out]
    go_wp2_with fail
    refine HV.out.mono ?_
    rintro e w1 ⟨rfl, hb1⟩
    have hBw := hB0.trans (hb1.mono hB0.size)
    have hg1 := (hb1.block _ hz0).trans HG0.out
    clear c0 c1 c2 c3 c4 c5 c6
    have c3 := (par_cells hg1).2.2.2.1
    obtain ⟨hcw, -⟩ := bcell hBw
    clear hg1 hb1
    go_wp2
    go_loop [6, 7] (fun q i => ∃ k z : Nat, k ≤ m ∧ i = .int .i64 (k : Int) ∧ q = .int .i64 (z : Int) ∧ Hid (z = (maxL (chain.take k) - 1) / 2)) (fun _ i => m - (intOf i).toNat)
    case atStart => exact ⟨0, 0, Nat.zero_le _, rfl, rfl, by show _ = _; simp [maxL]⟩
    case round =>
      obtain ⟨k, z, hk, rfl, rfl, hz⟩ := hrel
      by_cases hlt : k < m
      · obtain ⟨q, hq⟩ : ∃ x, chain[k]? = some x := ⟨chain[k]'(by rw [← HM.out]; exact hlt), List.getElem?_eq_getElem _⟩
        obtain ⟨b', off, rfl, hbl, hc⟩ := HS.out k q hq
        have hqr := HCG.out q (List.mem_of_getElem? hq)
        have HQ := Lib.hid (maxL_succ chain k q hq)
        clear hq
        obtain ⟨y, hy⟩ : ∃ y : Nat, y = (q - 1) / 2 := ⟨_, rfl⟩
        have e1 : ((q : Int) - 1) / 2 = (y : Int) := by omega
        have hyb : y ≤ 1073741823 := by omega
        have HY := Lib.hid hy
        clear hy
        by_cases hmq : z < y
        all_goals
          go_wp2
          go_round
          case rel => exact ⟨k + 1, max z y, by omega, by go_num, by first | (rw [Nat.max_eq_right (by omega)]) | (rw [Nat.max_eq_left (by omega)]), by show _ = _; rw [HQ.out, hz.out, HY.out]; omega⟩
          case measure => simp [intOf]; omega
      · obtain rfl : k = m := by omega
        obtain rfl : z = bb := by rw [hz.out, HBB.out, List.take_of_length_le (by rw [← HM.out]; exact Nat.le_refl _)]
        clear hz
        go_wp2
        go_ret2
        exact ⟨rfl, hBw⟩
end Go.Proofs.Ytpcpgmgpkegjlaa
