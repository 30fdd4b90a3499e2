/- Walks: GadgetBack. -/
import Derived.Test.YtpcpgmgpkegjlaaGE4
import Derived.Test.YtpcpgmgpkegjlaaGE6
namespace Go.Proofs.Ytpcpgmgpkegjlaa
open Go.RowKit Go.Shelf Go.BigFrame
set_option maxRecDepth 100000 in
set_option maxHeartbeats 40000000 in
theorem back_law (c : Case) (w : World) (h : c.reads w.heap.size w) (hcb : ∀ q ∈ c.chain, q < 4294967296) : Calls Try.prog 5 #[.agg c.cells] w fun e w' => e = .returned (.bool true) ∧ Below w.heap.size w w' := by
  obtain ⟨W0, hW0⟩ : ∃ W0, W0 = w.alloc (.cells c.cells 31) := ⟨_, rfl⟩
  have hB0 : Below w.heap.size w W0 := by rw [hW0]; exact (Below.refl _ w).alloc (Nat.le_refl _) _
  have g0 : W0.heap[w.heap.size]? = some (.cells c.cells 31) := by rw [hW0]; exact alloc_last _ _ rfl
  have hz0 := lt_of_heap g0
  have hR0 := Lib.hid ((h.below hB0).mono hB0.size)
  have HL := Lib.hid (large_any c W0 hR0.out)
  have HD := Lib.hid (fun W hb => Digits_any c.N c.pr c.pw c.wt c.er c.cv c.chain c.sp c.width c.la c.sa c.av c.xs W ((hR0.out.below hb).mono (Below.size hb)).1 ((hR0.out.below hb).mono (Below.size hb)).2.1 hcb)
  have HC := Lib.hid (fun W hb => Count_any c.N c.pr c.pw c.wt c.er c.cv c.chain c.sp c.width c.la W ((hR0.out.below hb).mono (Below.size hb)).1 hcb)
  have HBO := Lib.hid (fun W hb => Bound_any c.N c.pr c.pw c.wt c.er c.cv c.chain c.sp c.width W ((hR0.out.below hb).mono (Below.size hb)).1 hcb)
  have HJ := Lib.hid (fun W hb lw ls hls => Join_any c.N c.pr c.pw c.wt c.er c.cv c.chain c.sp c.width c.la lw ls W ((hR0.out.below hb).mono (Below.size hb)).1 hcb hls)
  unfold LargePost at HL
  unfold DigPost at HD
  unfold JoinPost at HJ
  have HG0 := Lib.hid g0
  have HW0 := Lib.hid hW0
  obtain ⟨k, ka, kb, ki, klev, kl⟩ := case_cells g0
  obtain ⟨k0, k1, k2, k3, k4, k5, k6, k7⟩ := k
  obtain ⟨ka0, ka1, ka2⟩ := ka
  obtain ⟨kb0, kb1, kb2⟩ := kb
  clear h g0 hW0 hcb
  unfold Case.cells at HW0
  unfold Case.cells
  obtain ⟨lg, hlg⟩ : ∃ b, b = largeB c := ⟨_, rfl⟩
  rw [← hlg] at HL
  have HLG := Lib.hid hlg
  clear hlg
  obtain ⟨dg, hdg⟩ : ∃ b, b = digB c.N c.chain c.sp c.width c.la c.sa c.xs := ⟨_, rfl⟩
  rw [← hdg] at HD
  have HDG := Lib.hid hdg
  clear hdg
  have hl0 : w.heap.size < W0.heap.size := hz0
  cases lg
  case true =>
    go_enter Try.func5, Try.ntmps5
    go_upto_region 1 with (fail)
    rw [← HW0.out]
    go_wp2_with fail
    refine HL.out.mono ?_
    rintro e w1 ⟨rfl, hb1⟩
    go_wp2_with fail
    refine (awake_any w1).mono ?_
    rintro e w2 ⟨rfl, hb2⟩
    go_wp2
    go_ret
    exact ⟨rfl, hB0.trans ((hb1.trans (hb2.mono hb1.size)).mono hB0.size)⟩
  obtain ⟨hcl, hxl, -⟩ := large_not HLG.out.symm
  go_enter Try.func5, Try.ntmps5
  go_upto_region 1 with (fail)
  rw [← HW0.out]
  go_wp2_with fail
  refine HL.out.mono ?_
  rintro e w1 ⟨rfl, hb1⟩
  have hs1 := hb1.size
  have hg1 := (hb1.block _ hz0).trans HG0.out
  have HG1 := Lib.hid hg1
  clear k0 k1 k2 k3 k4 k5 k6 k7 ka0 ka1 ka2 kb0 kb1 kb2 ki klev kl
  obtain ⟨k, ka, -, -, -, -⟩ := case_cells hg1
  obtain ⟨k0, k1, k2, k3, k4, k5, k6, k7⟩ := k
  obtain ⟨ka0, ka1, ka2⟩ := ka
  have l1 : w.heap.size < w1.heap.size := by omega
  have HD1 := HD.out w1 hb1
  clear hg1
  cases dg
  case false =>
    simp only [Bool.false_eq_true, if_false] at HD1
    go_wp2_with fail
    refine HD1.mono ?_
    rintro e w2 ⟨rfl, hb2⟩
    clear HD1
    go_wp2_with fail
    refine (awake_any w2).mono ?_
    rintro e w3 ⟨rfl, hb3⟩
    go_wp2
    go_ret
    exact ⟨rfl, hB0.trans ((hb1.trans ((hb2.trans (hb3.mono hb2.size)).mono hb1.size)).mono hB0.size)⟩
  simp only [if_true] at HD1
  go_wp2_with fail
  refine HD1.mono ?_
  rintro e w2 ⟨⟨v, rfl, hv⟩, hb2⟩
  clear HD1
  have hdgB := HDG.out.symm
  obtain ⟨hsa, hw1, hw2, hmade, n, lv, hN, hla, i1, i2, i3, i4, i5, i6⟩ := digB_parts hdgB
  obtain ⟨va, vc, rfl, hvc1, hvc2, hvs⟩ := hv.shape
  have hpb := parts_bound hw1 hw2
  have hdl := digRows_length c.N c.chain c.width c.la c.xs
  have hs2 := hb2.size
  have hB2 := hb1.trans (hb2.mono hs1)
  have hg2 := (hB2.block _ hz0).trans HG0.out
  have l2 : w.heap.size < w2.heap.size := by omega
  have hBD := digRows_bound hdgB
  obtain ⟨hj1, hj2⟩ := join_back hdgB
  have hrl : ∀ r ∈ digRows c.N c.chain c.width c.la c.xs, r.length = n := fun r hr => by rw [digRows_rowlen hr, hN]; simp
  obtain ⟨ls, hls⟩ : ∃ ls, ls = digRows c.N c.chain c.width c.la c.xs := ⟨_, rfl⟩
  rw [← hls] at hv hvc1 hvs hdl hBD hj1 hj2 hrl ⊢
  obtain ⟨m, hm⟩ : ∃ m, m = ls.length := ⟨_, rfl⟩
  rw [← hm] at hvc1 hdl hv ⊢
  have hci : countI c.width c.la (countB c.N c.chain c.sp c.width c.la) = (m : Int) ∧ errI (countB c.N c.chain c.sp c.width c.la) = 0 := by
    have hcb : countB c.N c.chain c.sp c.width c.la = true := by unfold countB levB; rw [hmade, hla]; simp; omega
    rw [hcb]
    refine ⟨?_, rfl⟩
    have hp : partsI c.width = ((partsI c.width).toNat : Int) := by omega
    show c.la * partsI c.width = _
    rw [hdl, hla, hp]; simp
  have hmb : m ≤ 24 * 16 * 100 := by
    rw [hdl, hla]
    exact Nat.mul_le_mul (show (lv : Int).toNat ≤ 24 * 16 by simp; omega) (by omega)
  obtain ⟨bd, hbd⟩ : ∃ bd, bd = boundR c.chain c.width true := ⟨_, rfl⟩
  have hbd0 : 0 ≤ bd ∧ bd ≤ 4294967296 := by
    have hv3 := (madeB_parts hmade).2.2.1
    have hmp := maxL_pos hv3
    have hml := maxL_lt c.chain 2147483648 (by omega) (fun q hq => by have := chain_ge hv3 q hq; omega)
    have hpw := pow_bound hw1 hw2
    rw [hbd]
    unfold boundR boundI
    rw [if_pos rfl]
    split <;> omega
  have HBD : Hid (∀ r ∈ ls, ∀ d ∈ r, -bd ≤ d ∧ d ≤ bd) := by
    show ∀ r ∈ ls, ∀ d ∈ r, -bd ≤ d ∧ d ≤ bd
    rw [hbd]; unfold boundR; rw [if_pos rfl]; exact hBD
  have HCI := Lib.hid hci
  have HMADE := Lib.hid hmade
  have HV := Lib.hid hv
  have HVS := Lib.hid hvs
  have HN := Lib.hid hN
  have HSA := Lib.hid hsa
  have HJ1 := Lib.hid hj1
  have HJ2 := Lib.hid hj2
  have HRL := Lib.hid hrl
  have HM := Lib.hid hm
  have HBDE := Lib.hid hbd
  have HG2 := Lib.hid hg2
  obtain ⟨hb0, hb1'⟩ := hbd0
  clear k0 k1 k2 k3 k4 k5 k6 k7 ka0 ka1 ka2 hvs hv hN hla hsa hj1 hj2 hrl hm hbd hBD hci hmade hls hdl i3 i4 i5 i6 hcl hxl hdgB
  obtain ⟨k, ka, -, -, -, -⟩ := case_cells hg2
  obtain ⟨k0, k1, k2, k3, k4, k5, k6, k7⟩ := k
  obtain ⟨ka0, ka1, ka2⟩ := ka
  clear hg2
  have hC := HC.out w2 hB2
  rw [HCI.out.1, HCI.out.2] at hC
  go_wp2_with fail
  refine hC.mono ?_
  rintro e w3 ⟨rfl, hb3⟩
  clear hC k0 k1 k2 k3 k4 k5 k6 k7 ka0 ka1 ka2
  have hs3 := hb3.size
  have hB3 := hB2.trans (hb3.mono hB2.size)
  have hg3 := (hb3.block _ l2).trans HG2.out
  have l3 : w.heap.size < w3.heap.size := by omega
  have HG3 := Lib.hid hg3
  obtain ⟨k, ka, -, -, -, -⟩ := case_cells hg3
  obtain ⟨k0, k1, k2, k3, k4, k5, k6, k7⟩ := k
  clear hg3 ka
  have hBo := HBO.out w3 hB3
  rw [HMADE.out, ← HBDE.out] at hBo
  simp only [show errI true = 0 from rfl] at hBo
  go_wp2_with fail
  refine hBo.mono ?_
  rintro e w4 ⟨rfl, hb4⟩
  clear hBo k0 k1 k2 k3 k4 k5 k6 k7
  have hs4 := hb4.size
  have hB4 := hB3.trans (hb4.mono hB3.size)
  have hg4 := (hb4.block _ l3).trans HG3.out
  have l4 : w.heap.size < w4.heap.size := by omega
  have hb24 : Below w2.heap.size w2 w4 := hb3.trans (hb4.mono hs3)
  have hJo := HJ.out w4 hB4 _ _ ((HV.out.below hb24).mono hb24.size)
  rw [HJ1.out, HJ2.out] at hJo
  simp only [if_true] at hJo
  have HG4 := Lib.hid hg4
  obtain ⟨k, ka, -, -, -, -⟩ := case_cells hg4
  obtain ⟨k0, k1, k2, k3, k4, k5, k6, k7⟩ := k
  obtain ⟨ka0, ka1, ka2⟩ := ka
  clear hg4
  go_wp2_with fail
  refine hJo.mono ?_
  rintro e w5 ⟨⟨rv, rfl, hrv⟩, hb5⟩
  obtain ⟨rva, rvc, rfl, -⟩ := hrv.shape
  clear hJo k0 k1 k2 k3 k4 k5 k6 k7 ka0 ka1 ka2
  have hs5 := hb5.size
  have hB5 := hB4.trans (hb5.mono hB4.size)
  obtain ⟨ml, hml⟩ : ∃ ml, ml = c.xs.length := ⟨_, rfl⟩
  rw [← hml] at hrv ⊢
  obtain ⟨w6, hw6⟩ : ∃ w6, w6 = w5.alloc (.cells #[.int .i64 c.la, .bool false, .slice rva ml rvc] 28) := ⟨_, rfl⟩
  have hb6 : Below w5.heap.size w5 w6 := by rw [hw6]; exact (Below.refl _ _).alloc (Nat.le_refl _) _
  have e6 : w6.heap[w5.heap.size]? = some (.cells #[.int .i64 c.la, .bool false, .slice rva ml rvc] 28) := by rw [hw6]; exact alloc_last _ _ rfl
  have hz6 := lt_of_heap e6
  have hs6 := hb6.size
  have hB6 := hB5.trans (hb6.mono hB5.size)
  have hb46 : Below w4.heap.size w4 w6 := hb5.trans (hb6.mono hs5)
  have hg6 := (hb46.block _ l4).trans HG4.out
  have l6 : w.heap.size < w6.heap.size := by omega
  have HG6 := Lib.hid hg6
  have hg5 := (hb5.block _ l4).trans HG4.out
  have l5 : w.heap.size < w5.heap.size := by omega
  obtain ⟨k, ka, -, -, -, -⟩ := case_cells hg5
  obtain ⟨k0, k1, k2, k3, k4, k5, k6, k7⟩ := k
  obtain ⟨ka0, ka1, ka2⟩ := ka
  clear hg5
  have hS := same09_any c.la c.la false false _ _ _ _ _ _ w6 (hrv.below hb6) ((hR0.out.below hB6).2.1) hs6 hB6.size
  simp only [decide_true, Bool.and_self] at hS
  rw [HSA.out] at ka1
  have t0 : ((m : Int) != (m : Int)) = false := by simp
  have t1 : ((0 : Int) != 0) = false := by simp
  have HW6 := Lib.hid hw6
  clear hg6 e6 hrv hml hw6
  go_wp2_with fail
  rw [← HW6.out]
  (with_reducible refine hS.mono ?_)
  rintro e w7 ⟨rfl, hb7⟩
  clear hS k0 k1 k2 k3 k4 k5 k6 k7 ka0 ka1 ka2
  have hB7 := hB6.trans (hb7.mono hB6.size)
  have hb27 : Below w2.heap.size w2 w7 := hb24.trans ((hb46.trans (hb7.mono (by omega))).mono hb24.size)
  have hg7 := (hb7.block _ l6).trans HG6.out
  have k0 := (case_cells hg7).1.1
  rw [HN.out] at k0
  have HS7 : Hid (∀ (j : Nat) (r : List Int), ls[j]? = some r → ∃ b off b2 c2, va = some ⟨b, off, none⟩ ∧ w7.cell? ⟨b, off + j, none⟩ = some (.slice b2 r.length c2) ∧ w7.reads w2.heap.size (.slice b2 r.length c2) (r.map i64V)) := by
    intro j r hj
    obtain ⟨b, off, b2, c2, h1, h2, h3, h4⟩ := HVS.out j r hj
    exact ⟨b, off, b2, c2, h1, by rw [hb27.cell (p := ⟨b, off + j, none⟩) h2]; exact h3, h4.below hb27⟩
  have HBW := Lib.hid (hB0.trans (hB7.mono hB0.size))
  clear hg7
  go_wp2_with fail
  go_loopw [11] (fun i wx => ∃ k n0 : Nat, k ≤ m ∧ i = .int .i64 (k : Int) ∧ wx = w7.drewN n0) (fun i _ => m - (intOf i).toNat)
  case atStart => exact ⟨0, 0, Nat.zero_le _, rfl, rfl⟩
  case round =>
    obtain ⟨k, n0, hk, rfl, rfl⟩ := hrel
    by_cases hlt : k < m
    · obtain ⟨x, hx⟩ : ∃ x, ls[k]? = some x := ⟨ls[k]'(by have := HM.out; omega), List.getElem?_eq_getElem _⟩
      obtain ⟨b1, o1, p1, d1, rfl, hcx, hrx⟩ := HS7.out k x hx
      have hxm := List.mem_of_getElem? hx
      have hxn := HRL.out x hxm
      obtain ⟨q1, e1, he1, -, -, hsx⟩ := reads_i64 hrx
      injection he1 with he1a _ he1c
      subst he1a
      rw [hxn] at hcx
      have HBX := Lib.hid (HBD.out x hxm)
      have HSX := Lib.hid hsx
      have HXN := Lib.hid hxn
      clear hsx hx hrx hxm hxn he1c
      have i1 : (0 : Int) ≤ (k : Int) := by omega
      have i2 : (k : Int) < (m : Int) := by omega
      have t4 : ((n : Int) != (n : Int)) = false := by simp
      go_upto_region 14 with (fail)
      go_quiet (fail)
      go_wp2
      go_loopw [12] (fun ii wx => ∃ j n1 : Nat, j ≤ n ∧ ii = .int .i64 (j : Int) ∧ wx = w7.drewN n1) (fun ii _ => n - (intOf ii).toNat)
      case atStart => exact ⟨0, _, Nat.zero_le _, rfl, rfl⟩
      case round =>
        obtain ⟨j, n1, hj, rfl, rfl⟩ := hrel
        by_cases hltj : j < n
        · obtain ⟨u, hu⟩ : ∃ u, x[j]? = some u := ⟨x[j]'(by have := HXN.out; omega), List.getElem?_eq_getElem _⟩
          obtain ⟨b3, o3, rfl, _, hcu⟩ := HSX.out j u hu
          obtain ⟨u1, u2⟩ := HBX.out u (List.mem_of_getElem? hu)
          clear hu
          have u3 : ¬ bd < u := by omega
          have u4 : ¬ u < -bd := by omega
          go_wp2
          go_roundw
          case rel => exact ⟨j + 1, _, by omega, by go_num, rfl⟩
          case measure => simp [intOf]; omega
        · obtain rfl : j = n := by omega
          go_wp2
          go_roundw
          case rel => exact ⟨k + 1, _, by omega, by go_num, rfl⟩
          case measure => simp [intOf]; omega
    · obtain rfl : k = m := by omega
      go_wp2_with fail
      refine (awake_any _).mono ?_
      rintro e w8 ⟨rfl, hb8⟩
      go_wp2
      go_ret
      have hd := below_drewN HBW.out n0
      exact ⟨rfl, hd.trans (hb8.mono (by have := HBW.out.size; simpa using this))⟩
end Go.Proofs.Ytpcpgmgpkegjlaa
