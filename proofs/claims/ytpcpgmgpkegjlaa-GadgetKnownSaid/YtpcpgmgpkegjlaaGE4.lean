/- Walks: GadgetLevels. -/
import Derived.Test.YtpcpgmgpkegjlaaGE2
import Derived.Test.YtpcpgmgpkegjlaaGE3
namespace Go.Proofs.Ytpcpgmgpkegjlaa
open Go.RowKit Go.Shelf Go.BigFrame
theorem case_cells {w : World} {p : Nat} {c : Case} {t : TypeId} {fz : Nat × Nat} (h : w.heap[p]? = some (.cells c.cells t fz)) :
    (w.cell? ⟨p, 0, none⟩ = some (.int .i64 c.N) ∧ w.cell? ⟨p, 1, none⟩ = some (.int .u32 c.pr) ∧ w.cell? ⟨p, 2, none⟩ = some (.int .i64 c.pw) ∧ w.cell? ⟨p, 3, none⟩ = some c.cv ∧ w.cell? ⟨p, 4, none⟩ = some (.int .u32 (c.sp : Int)) ∧ w.cell? ⟨p, 5, none⟩ = some (.int .i64 c.wt) ∧ w.cell? ⟨p, 6, none⟩ = some (.int .u32 c.er) ∧ w.cell? ⟨p, 7, none⟩ = some (.int .i64 c.width)) ∧
    (w.cell? ⟨p, 8, none⟩ = some (.int .i64 c.la) ∧ w.cell? ⟨p, 9, none⟩ = some (.bool c.sa) ∧ w.cell? ⟨p, 10, none⟩ = some c.av) ∧ (w.cell? ⟨p, 11, none⟩ = some (.int .i64 c.lb) ∧ w.cell? ⟨p, 12, none⟩ = some (.bool c.sb) ∧ w.cell? ⟨p, 13, none⟩ = some c.bv) ∧
    w.cell? ⟨p, 14, none⟩ = some (.int .i64 c.i) ∧ w.cell? ⟨p, 15, none⟩ = some (.int .i64 c.level) ∧ w.cell? ⟨p, 16, none⟩ = some c.lw := by
  simp [World.cell?, h, Case.cells]
theorem rows_take {α : Type} {enc : α → Value} {w : World} {B : Nat} {a : Option Addr} {n c : Nat} {rs : List (List α)} (h : w.rows enc B (.slice a n c) rs) (k : Nat) (hk : k ≤ n) : w.rows enc B (.slice a k c) (rs.take k) := by
  obtain ⟨vs, hl, hr, hi⟩ := h
  refine ⟨vs.take k, by simp [hl], hr.take k hk, fun i r hir => ?_⟩
  rw [List.getElem?_take] at hir
  split at hir
  · rename_i hik
    obtain ⟨u, hu, hur⟩ := hi i r hir
    exact ⟨u, by rw [List.getElem?_take, if_pos hik]; exact hu, hur⟩
  · cases hir
theorem large_not {c : Case} (h : largeB c = false) : c.chain.length ≤ 100 ∧ c.xs.length ≤ 60 ∧ c.ls.length ≤ 500 := by
  unfold largeB hugeB at h
  simp only [Bool.or_eq_false_iff, decide_eq_false_iff_not] at h
  omega
set_option maxRecDepth 100000 in
set_option maxHeartbeats 16000000 in
theorem levels_law (c : Case) (w : World) (h : c.reads w.heap.size w) (hcb : ∀ q ∈ c.chain, q < 4294967296) : Calls Try.prog 3 #[.agg c.cells] w fun e w' => e = .returned (.bool true) ∧ Below w.heap.size w w' := by
  obtain ⟨W0, hW0⟩ : ∃ W0, W0 = w.alloc (.cells c.cells 31) := ⟨_, rfl⟩
  have hB0 : Below w.heap.size w W0 := by rw [hW0]; exact (Below.refl _ w).alloc (Nat.le_refl _) _
  have g0 : W0.heap[w.heap.size]? = some (.cells c.cells 31) := by rw [hW0]; exact alloc_last _ _ rfl
  have hz0 := lt_of_heap g0
  have hR0 := Lib.hid ((h.below hB0).mono hB0.size)
  have HL := Lib.hid (large_any c W0 hR0.out)
  have HD := Lib.hid (fun W hb => Digits_any c.N c.pr c.pw c.wt c.er c.cv c.chain c.sp c.width c.la c.sa c.av c.xs W ((hR0.out.below hb).mono (Below.size hb)).1 ((hR0.out.below hb).mono (Below.size hb)).2.1 hcb)
  have HC := Lib.hid (fun W hb => Count_any c.N c.pr c.pw c.wt c.er c.cv c.chain c.sp c.width c.level W ((hR0.out.below hb).mono (Below.size hb)).1 hcb)
  have HK := Lib.hid (fun W hb rv lv rows hrow => Digits_any c.N c.pr c.pw c.wt c.er c.cv c.chain c.sp c.width lv false rv rows W ((hR0.out.below hb).mono (Below.size hb)).1 hrow hcb)
  unfold LargePost at HL
  unfold DigPost at HD HK
  have HG0 := Lib.hid g0
  have HW0 := Lib.hid hW0
  obtain ⟨k, ka, kb, ki, klev, kl⟩ := case_cells g0
  obtain ⟨k0, k1, k2, k3, k4, k5, k6, k7⟩ := k
  obtain ⟨ka0, ka1, ka2⟩ := ka
  obtain ⟨kb0, kb1, kb2⟩ := kb
  clear h g0 hW0 hcb
  unfold Case.cells at HW0
  unfold Case.cells
  obtain ⟨lg, hlg⟩ : ∃ b, b = largeB c := ⟨_, rfl⟩
  rw [← hlg] at HL
  have HLG := Lib.hid hlg
  clear hlg
  obtain ⟨dg, hdg⟩ : ∃ b, b = digB c.N c.chain c.sp c.width c.la c.sa c.xs := ⟨_, rfl⟩
  rw [← hdg] at HD
  have HDG := Lib.hid hdg
  clear hdg
  have hl0 : w.heap.size < W0.heap.size := hz0
  cases lg
  case true =>
    go_enter Try.func3, Try.ntmps3
    go_upto_region 1 with (fail)
    rw [← HW0.out]
    go_wp2_with fail
    refine HL.out.mono ?_
    rintro e w1 ⟨rfl, hb1⟩
    go_wp2_with fail
    refine (awake_any w1).mono ?_
    rintro e w2 ⟨rfl, hb2⟩
    go_wp2
    go_ret
    exact ⟨rfl, hB0.trans ((hb1.trans (hb2.mono hb1.size)).mono hB0.size)⟩
  obtain ⟨hcl, hxl, -⟩ := large_not HLG.out.symm
  go_enter Try.func3, Try.ntmps3
  go_upto_region 1 with (fail)
  rw [← HW0.out]
  go_wp2_with fail
  refine HL.out.mono ?_
  rintro e w1 ⟨rfl, hb1⟩
  have hs1 := hb1.size
  have hg1 := (hb1.block _ hz0).trans HG0.out
  have HG1 := Lib.hid hg1
  clear k0 k1 k2 k3 k4 k5 k6 k7 ka0 ka1 ka2 kb0 kb1 kb2 ki klev kl
  obtain ⟨k, ka, -, -, klev, -⟩ := case_cells hg1
  obtain ⟨k0, k1, k2, k3, k4, k5, k6, k7⟩ := k
  obtain ⟨ka0, ka1, ka2⟩ := ka
  have l1 : w.heap.size < w1.heap.size := by omega
  have HD1 := HD.out w1 hb1
  clear hg1
  cases dg
  case false =>
    simp only [Bool.false_eq_true, if_false] at HD1
    go_wp2_with fail
    refine HD1.mono ?_
    rintro e w2 ⟨rfl, hb2⟩
    clear HD1
    go_wp2_with fail
    refine (awake_any w2).mono ?_
    rintro e w3 ⟨rfl, hb3⟩
    go_wp2
    go_ret
    exact ⟨rfl, hB0.trans ((hb1.trans ((hb2.trans (hb3.mono hb2.size)).mono hb1.size)).mono hB0.size)⟩
  simp only [if_true] at HD1
  go_wp2_with fail
  refine HD1.mono ?_
  rintro e w2 ⟨⟨v, rfl, hv⟩, hb2⟩
  clear HD1
  obtain ⟨hsa, hw1, hw2, hmade, n, lv, hN, hla, i1, i2, i3, i4, i5, i6⟩ := digB_parts HDG.out.symm
  obtain ⟨va, vc, rfl, hvc1, hvc2, -⟩ := hv.shape
  have hpb := parts_bound hw1 hw2
  have hdl := digRows_length c.N c.chain c.width c.la c.xs
  obtain ⟨P, hP⟩ : ∃ P, P = (partsI c.width).toNat := ⟨_, rfl⟩
  have hPI : partsI c.width = (P : Int) := by omega
  have hs2 := hb2.size
  have hB2 := hb1.trans (hb2.mono hs1)
  have hg2 := (hB2.block _ hz0).trans HG0.out
  clear k0 k1 k2 k3 k4 k5 k6 k7 ka0 ka1 ka2 klev
  have HV := Lib.hid hv
  have HN := Lib.hid hN
  have HLA := Lib.hid hla
  have HSA := Lib.hid hsa
  have HI5 := Lib.hid i5
  have HI6 := Lib.hid i6
  have HP := Lib.hid hP
  have HPI := Lib.hid hPI
  have HMADE := Lib.hid hmade
  have HG2 := Lib.hid hg2
  have l2 : w.heap.size < w2.heap.size := by omega
  obtain ⟨m, hm⟩ : ∃ m, m = (digRows c.N c.chain c.width c.la c.xs).length := ⟨_, rfl⟩
  rw [← hm] at hvc1
  rw [← hm] at hdl ⊢
  have HM := Lib.hid hm
  have HDL := Lib.hid hdl
  obtain ⟨k, ka, -, -, klev, -⟩ := case_cells hg2
  obtain ⟨k0, k1, k2, k3, k4, k5, k6, k7⟩ := k
  obtain ⟨ka0, ka1, ka2⟩ := ka
  clear hv hN hsa i5 i6 hP hPI hmade hg2 hm hdl
  by_cases hlev : 1 ≤ c.level ∧ c.level ≤ c.la
  case neg =>
    have hBw := hB0.trans (hB2.mono hB0.size)
    clear hla
    by_cases hl1 : c.level < 1
    · go_wp2_with fail
      refine (awake_any w2).mono ?_
      rintro e w3 ⟨rfl, hb3⟩
      go_wp2
      go_ret
      exact ⟨rfl, hBw.trans (hb3.mono hBw.size)⟩
    · have hl2 : c.la < c.level := by omega
      clear hlev
      go_wp2_with fail
      refine (awake_any w2).mono ?_
      rintro e w3 ⟨rfl, hb3⟩
      go_wp2
      go_ret
      exact ⟨rfl, hBw.trans (hb3.mono hBw.size)⟩
  obtain ⟨hl1, hl2⟩ := hlev
  obtain ⟨kk, hkk⟩ : ∃ kk : Nat, c.level = (kk : Int) := ⟨c.level.toNat, by omega⟩
  have hR2 := (hR0.out.below hB2).mono hB2.size
  obtain ⟨ra, rc, hav, hrc1, hrc2, -⟩ := hR2.2.1.shape
  rw [HI5.out] at hav hrc1
  have hkl : kk ≤ lv := by omega
  have hk1 : 1 ≤ kk := by omega
  rw [hav] at ka2
  rw [hkk] at klev
  rw [hla] at ka0
  have HKK := Lib.hid hkk
  have HAV := Lib.hid hav
  have HR2 := Lib.hid hR2
  clear hkk hav hR2 hla hl1 hl2
  have z1 : (0 : Int) ≤ (kk : Int) := by omega
  have z2 : (kk : Int) ≤ (rc : Int) := by omega
  have z3 : (kk : Int) ≤ (lv : Int) := by omega
  have z4 : (kk : Int).toNat = kk := by omega
  go_wp2_with fail
  go_region_held3 (fun w' => w'.cell? ⟨w.heap.size, 15, none⟩ = some (.int .i64 (kk : Int)) ∧ w'.cell? ⟨w.heap.size, 10, none⟩ = some (.slice ra lv rc))
    (first | go_keep | exact ⟨klev, ka2⟩)
    (fail)
  all_goals
    obtain ⟨w3, hw3⟩ : ∃ w3, w3 = (w2.alloc (.cells #[.int .i64 (kk : Int), .bool false, .slice ra kk rc] 28)).drew := ⟨_, rfl⟩
    have hb3 : Below w2.heap.size w2 w3 := by rw [hw3]; exact ((Below.refl _ _).alloc (Nat.le_refl _) _).drew
    have e3 : w3.heap[w2.heap.size]? = some (.cells #[.int .i64 (kk : Int), .bool false, .slice ra kk rc] 28) := by rw [hw3]; exact alloc_last _ _ rfl
    have hz3 := lt_of_heap e3
    have hB3 := hB2.trans (hb3.mono hB2.size)
    have hg3 := (hb3.block _ l2).trans HG2.out
    rw [← hw3]
    clear k0 k1 k2 k3 k4 k5 k6 k7 ka0 ka1 ka2 klev hw3
    obtain ⟨k, -, -, -, klev, -⟩ := case_cells hg3
    obtain ⟨k0, k1, k2, k3, k4, k5, k6, k7⟩ := k
    have q0 : w3.cell? ⟨w2.heap.size, 0, none⟩ = some (.int .i64 (kk : Int)) := by simp [World.cell?, e3]
    have q1 : w3.cell? ⟨w2.heap.size, 1, none⟩ = some (.bool false) := by simp [World.cell?, e3]
    have q2 : w3.cell? ⟨w2.heap.size, 2, none⟩ = some (.slice ra kk rc) := by simp [World.cell?, e3]
    have hrow3 : w3.rows u32V w3.heap.size (.slice ra kk rc) (c.xs.take kk) := by
      have h1 := HR2.out.2.1
      rw [HAV.out] at h1
      exact ((rows_take h1 kk hkl).below hb3).mono hb3.size
    have hD3 := HK.out w3 hB3 (.slice ra kk rc) (kk : Int) (c.xs.take kk) hrow3
    have hdt : digB c.N c.chain c.sp c.width (kk : Int) false (c.xs.take kk) = true := digB_take HDG.out.symm kk hk1 (by rw [HLA.out]; omega)
    rw [hdt] at hD3
    simp only [if_true] at hD3
    have HG3 := Lib.hid hg3
    clear e3 hg3 hrow3 hdt
    go_wp2_with fail
    refine hD3.mono ?_
    rintro e w4 ⟨⟨u, rfl, hu⟩, hb4⟩
    obtain ⟨ua, uc, rfl, -⟩ := hu.shape
    have hB4 := hB3.trans (hb4.mono hB3.size)
    have hs3 := hB3.size
    have hs4 := hB4.size
    have hb24 := hb3.trans (hb4.mono hb3.size)
    have hg4 := (hb4.block _ (by omega)).trans HG3.out
    have l4 : w.heap.size < w4.heap.size := by omega
    have hC4 := HC.out w4 hB4
    have hcb : countB c.N c.chain c.sp c.width c.level = true := by unfold countB levB; rw [HMADE.out, HKK.out]; simp; omega
    obtain ⟨cn, hcn⟩ : ∃ cn, cn = kk * P := ⟨_, rfl⟩
    have hci : countI c.width c.level true = (cn : Int) := by unfold countI; rw [HKK.out, HPI.out, hcn]; simp
    have hcm : cn ≤ m := by rw [hcn, HDL.out, HLA.out, ← HP.out]; exact Nat.mul_le_mul_right _ (by simpa using hkl)
    rw [hcb, hci] at hC4
    have HU := Lib.hid hu
    have HCN := Lib.hid hcn
    clear k0 k1 k2 k3 k4 k5 k6 k7 klev q0 q1 q2 hD3 hu hcb hci hcn
    obtain ⟨k, -, -, -, klev, -⟩ := case_cells hg4
    obtain ⟨k0, k1, k2, k3, k4, k5, k6, k7⟩ := k
    clear hg4
    go_wp2_with fail
    refine hC4.mono ?_
    rintro e w5 ⟨rfl, hb5⟩
    clear k0 k1 k2 k3 k4 k5 k6 k7 klev hC4
    have hB5 := hB4.trans (hb5.mono hB4.size)
    have hb25 := hb24.trans (hb5.mono hb24.size)
    have hS := same17_any (.slice ua (digRows c.N c.chain c.width (kk : Int) (c.xs.take kk)).length uc) (.slice va cn vc) _ _ _ _ w5 (HU.out.below hb5) (rows_take ((HM.out ▸ HV.out : w2.rows i64V w2.heap.size (.slice va m vc) _).below hb25) cn hcm)
    have hse : digRows c.N c.chain c.width (kk : Int) (c.xs.take kk) = (digRows c.N c.chain c.width c.la c.xs).take cn := by
      rw [digRows_take c.N c.chain c.width hw1 hw2 lv kk hkl c.xs, HCN.out, HLA.out, HP.out]
    rw [← hse] at hS
    simp only [decide_true] at hS
    have HSE := Lib.hid hse
    obtain ⟨ml, hml⟩ : ∃ ml, ml = (digRows c.N c.chain c.width (kk : Int) (c.xs.take kk)).length := ⟨_, rfl⟩
    rw [← hml] at hS ⊢
    have HML := Lib.hid hml
    clear hse hml
    have hvc3 : cn ≤ vc := by omega
    go_wp2_with fail
    refine hS.mono ?_
    rintro e w6 ⟨rfl, hn6⟩
    have hb6 : Below w5.heap.size w5 w6 := below_of_drewN hn6
    clear hS hn6
    go_wp2_with fail
    refine (awake_any w6).mono ?_
    rintro e w7 ⟨rfl, hb7⟩
    go_wp2
    go_ret
    have hB7 := hB5.trans ((hb6.trans (hb7.mono hb6.size)).mono hB5.size)
    exact ⟨rfl, hB0.trans (hB7.mono hB0.size)⟩
end Go.Proofs.Ytpcpgmgpkegjlaa
