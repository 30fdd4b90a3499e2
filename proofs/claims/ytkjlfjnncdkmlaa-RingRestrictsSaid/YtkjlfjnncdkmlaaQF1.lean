/- Walks: the law RingRestricts. -/
import Derived.Test.YtkjlfjnncdkmlaaPA6
namespace Go.Proofs.Ytkjlfjnncdkmlaa.G
set_option linter.all false
open Go.RowKit Go.Shelf Go.BigFrame
attribute [local go_sem] Oper.semAt_some
set_option maxRecDepth 100000 in
set_option maxHeartbeats 16000000 in
theorem restricts_law (c : RCase) (w : World) (h : c.reads w.heap.size w) : Calls Try.prog 4 #[.agg c.cells] w fun e w' => e = .returned (.bool true) ∧ Below w.heap.size w w' := by
  obtain ⟨HPOST, hpost⟩ : ∃ R : Ending → World → Prop, R = fun e w' => e = .returned (.bool true) ∧ Below w.heap.size w w' := ⟨_, rfl⟩
  rw [← hpost]
  have HP := Lib.hid hpost
  have HAW := Lib.hid awake_any
  obtain ⟨N, pr, pw, wt, er, la, lb, num, kk, level, cv, av, bv, lw, sa, sb, special, chain, sp, xs, ys, ls⟩ := c
  have h1 : w.reads w.heap.size cv (chain.map u32V) := h.1
  have h2 : w.rows u32V w.heap.size av xs := h.2.1
  have h3 : w.rows u32V w.heap.size bv ys := h.2.2.1
  have h4 : w.reads w.heap.size lw (ls.map i64V) := h.2.2.2
  obtain ⟨W0, hW0⟩ : ∃ W0, W0 = w.alloc (.cells #[.int .i64 N, .int .u32 pr, .int .i64 pw, cv, .int .u32 (sp : Int), .int .i64 wt, .int .u32 er, .int .i64 la, .bool sa, av, .int .i64 lb, .bool sb, bv, .int .i64 num, .int .i64 kk, .int .i64 level, .bool special, lw] 31) := ⟨_, rfl⟩
  have hb : Below w.heap.size w W0 := by rw [hW0]; exact below_new w _
  have G : Hid (W0.heap[w.heap.size]? = some (.cells #[.int .i64 N, .int .u32 pr, .int .i64 pw, cv, .int .u32 (sp : Int), .int .i64 wt, .int .u32 er, .int .i64 la, .bool sa, av, .int .i64 lb, .bool sb, bv, .int .i64 num, .int .i64 kk, .int .i64 level, .bool special, lw] 31)) := by rw [hW0]; exact heap_alloc_new w _
  have RP := hR (Lib.hid h1) hb
  have RA := hRow (Lib.hid h2) hb
  have RB := hRow (Lib.hid h3) hb
  have RL := hR (Lib.hid h4) hb
  have B := Lib.hid hb
  have hlg := large_any ⟨N, pr, pw, wt, er, la, lb, num, kk, level, cv, av, bv, lw, sa, sb, special, chain, sp, xs, ys, ls⟩ W0 ⟨RP.out, RA.out, RB.out, RL.out⟩
  obtain ⟨lg, hlgd⟩ : ∃ b, b = largeB ⟨N, pr, pw, wt, er, la, lb, num, kk, level, cv, av, bv, lw, sa, sb, special, chain, sp, xs, ys, ls⟩ := ⟨_, rfl⟩
  rw [← hlgd] at hlg
  simp only [RCase.cells] at hlg ⊢
  have HLG := Lib.hid hlg
  have LG := Lib.hid hlgd
  have HW0 := Lib.hid hW0
  obtain ⟨p0, p1, p2, p3, p4, p5, p6, p7, p8, p9, p10, p11, p12, p13, p14, p15, p16, p17⟩ := case_cells G.out
  obtain ⟨o1, O1⟩ : ∃ o, Hid (o = twoB N chain sp la lb sa sb xs ys) := ⟨_, Lib.hid rfl⟩
  obtain ⟨o2, O2⟩ : ∃ o, Hid (o = (checkB N chain sp la sa xs && resB2 la sa level special)) := ⟨_, Lib.hid rfl⟩
  obtain ⟨o3, O3⟩ : ∃ o, Hid (o = (checkB N chain sp lb sb ys && resB2 lb sb level special)) := ⟨_, Lib.hid rfl⟩
  clear hpost hb h h1 h2 h3 h4 hlg hlgd hW0
  go_enter Try.func4, Try.ntmps4
  go_upto_region 1 with (fail)
  rw [← HW0.out]
  obtain ⟨pc, hpc⟩ : ∃ z, z = w.heap.size := ⟨_, rfl⟩
  rw [← hpc] at G p0 p1 p2 p3 p4 p5 p6 p7 p8 p9 p10 p11 p12 p13 p14 p15 p16 p17 ⊢
  clear hpc HW0
  go_wp2_with fail
  (with_reducible refine HLG.out.mono ?_)
  rintro e v0 ⟨rfl, hb⟩
  replace B := hB B hb
  replace G := hG G hb
  replace RP := hR RP hb
  replace RA := hRow RA hb
  replace RB := hRow RB hb
  replace RL := hR RL hb
  clear hb HLG p0 p1 p2 p3 p4 p5 p6 p7 p8 p9 p10 p11 p12 p13 p14 p15 p16 p17
  cases lg with
  | true =>
    go_wp2_with fail
    (with_reducible refine (HAW.out _).mono ?_)
    rintro e wz ⟨rfl, hb⟩
    go_wp2
    rw [HP.out]
    exact ⟨rfl, below_via B.out hb⟩
  | false =>
  obtain ⟨p0, p1, p2, p3, p4, p5, p6, p7, p8, p9, p10, p11, p12, p13, p14, p15, p16, p17⟩ := case_cells G.out
  go_wp2_with fail
  (with_reducible refine (mul_e RP.out RA.out RB.out _ rfl _ rfl o1 O1.out).mono ?_)
  rintro e v1 ⟨la1, sa1, ra1, nn1, rc1, rs1, er1, rfl, hrow, hk, hk2, hb⟩
  have K1 := Lib.hid hk
  have J1 := Lib.hid hk2
  clear hk hk2
  replace B := hB B hb
  replace G := hG G hb
  replace RP := hR RP hb
  replace RA := hRow RA hb
  replace RB := hRow RB hb
  clear p0 p1 p2 p3 p4 p5 p6 p7 p8 p9 p10 p11 p12 p13 p14 p15 p16 p17
  clear hb
  go_upto_region 4 with (fail)
  have E1 := ElAt.new (la := la1) (sa := sa1) hrow
  have hb := below_new v1 (.cells #[.int .i64 la1, .bool sa1, .slice ra1 nn1 rc1] 28)
  obtain ⟨b1, hbd⟩ : ∃ z, z = v1.heap.size := ⟨_, rfl⟩
  rw [← hbd] at E1 ⊢
  generalize v1.alloc (.cells #[.int .i64 la1, .bool sa1, .slice ra1 nn1 rc1] 28) = v2 at hb E1 ⊢
  replace B := hB B hb
  replace G := hG G hb
  replace RP := hR RP hb
  replace RA := hRow RA hb
  replace RB := hRow RB hb
  clear hrow hb hbd
  obtain ⟨p0, p1, p2, p3, p4, p5, p6, p7, p8, p9, p10, p11, p12, p13, p14, p15, p16, p17⟩ := case_cells G.out
  go_wp2_with fail
  (with_reducible refine (restr_e RP.out RA.out _ _ o2 O2.out).mono ?_)
  rintro e v3 ⟨la2, sa2, ra2, nn2, rc2, rs2, er2, rfl, hrow, hk, hk2, hb⟩
  have K2 := Lib.hid hk
  have J2 := Lib.hid hk2
  clear hk hk2
  replace B := hB B hb
  replace G := hG G hb
  replace RP := hR RP hb
  replace RA := hRow RA hb
  replace RB := hRow RB hb
  replace E1 := ElAt.below E1 hb
  clear p0 p1 p2 p3 p4 p5 p6 p7 p8 p9 p10 p11 p12 p13 p14 p15 p16 p17
  clear hb
  go_upto_region 5 with (fail)
  have E2 := ElAt.new (la := la2) (sa := sa2) hrow
  have hb := below_new v3 (.cells #[.int .i64 la2, .bool sa2, .slice ra2 nn2 rc2] 28)
  obtain ⟨b2, hbd⟩ : ∃ z, z = v3.heap.size := ⟨_, rfl⟩
  rw [← hbd] at E2 ⊢
  generalize v3.alloc (.cells #[.int .i64 la2, .bool sa2, .slice ra2 nn2 rc2] 28) = v4 at hb E2 ⊢
  replace B := hB B hb
  replace G := hG G hb
  replace RP := hR RP hb
  replace RA := hRow RA hb
  replace RB := hRow RB hb
  replace E1 := ElAt.below E1 hb
  clear hrow hb hbd
  obtain ⟨p0, p1, p2, p3, p4, p5, p6, p7, p8, p9, p10, p11, p12, p13, p14, p15, p16, p17⟩ := case_cells G.out
  go_wp2_with fail
  (with_reducible refine (restr_e RP.out RB.out _ _ o3 O3.out).mono ?_)
  rintro e v5 ⟨la3, sa3, ra3, nn3, rc3, rs3, er3, rfl, hrow, hk, hk2, hb⟩
  have K3 := Lib.hid hk
  have J3 := Lib.hid hk2
  clear hk hk2
  replace B := hB B hb
  replace G := hG G hb
  replace RP := hR RP hb
  replace RA := hRow RA hb
  replace RB := hRow RB hb
  replace E1 := ElAt.below E1 hb
  replace E2 := ElAt.below E2 hb
  clear p0 p1 p2 p3 p4 p5 p6 p7 p8 p9 p10 p11 p12 p13 p14 p15 p16 p17
  clear hb
  go_upto_region 6 with (fail)
  have E3 := ElAt.new (la := la3) (sa := sa3) hrow
  have hb := below_new v5 (.cells #[.int .i64 la3, .bool sa3, .slice ra3 nn3 rc3] 28)
  obtain ⟨b3, hbd⟩ : ∃ z, z = v5.heap.size := ⟨_, rfl⟩
  rw [← hbd] at E3 ⊢
  generalize v5.alloc (.cells #[.int .i64 la3, .bool sa3, .slice ra3 nn3 rc3] 28) = v6 at hb E3 ⊢
  replace B := hB B hb
  replace G := hG G hb
  replace RP := hR RP hb
  replace RA := hRow RA hb
  replace RB := hRow RB hb
  replace E1 := ElAt.below E1 hb
  replace E2 := ElAt.below E2 hb
  clear hrow hb hbd
  cases o1 with
  | false =>
    obtain rfl : 2 = er1 := by first | exact (J1.out rfl).2.2.2 | exact (J1.out trivial).2.2.2
    go_wp2_with fail
    (with_reducible refine (HAW.out _).mono ?_)
    rintro e wz ⟨rfl, hb⟩
    go_wp2
    rw [HP.out]
    exact ⟨rfl, below_via B.out hb⟩
  | true =>
  obtain ⟨rfl, rfl, rfl, rfl⟩ := (by first | exact K1.out rfl | exact K1.out trivial : _ = la1 ∧ _ = sa1 ∧ _ = rs1 ∧ _ = er1)
  clear K1 J1
  cases o2 with
  | false =>
    obtain rfl : 2 = er2 := by first | exact (J2.out rfl).2.2.2 | exact (J2.out trivial).2.2.2
    go_wp2_with fail
    (with_reducible refine (HAW.out _).mono ?_)
    rintro e wz ⟨rfl, hb⟩
    go_wp2
    rw [HP.out]
    exact ⟨rfl, below_via B.out hb⟩
  | true =>
  obtain ⟨rfl, rfl, rfl, rfl⟩ := (by first | exact K2.out rfl | exact K2.out trivial : _ = la2 ∧ _ = sa2 ∧ _ = rs2 ∧ _ = er2)
  clear K2 J2
  cases o3 with
  | false =>
    obtain rfl : 2 = er3 := by first | exact (J3.out rfl).2.2.2 | exact (J3.out trivial).2.2.2
    go_wp2_with fail
    (with_reducible refine (HAW.out _).mono ?_)
    rintro e wz ⟨rfl, hb⟩
    go_wp2
    rw [HP.out]
    exact ⟨rfl, below_via B.out hb⟩
  | true =>
  obtain ⟨rfl, rfl, rfl, rfl⟩ := (by first | exact K3.out rfl | exact K3.out trivial : _ = la3 ∧ _ = sa3 ∧ _ = rs3 ∧ _ = er3)
  clear K3 J3
  obtain ⟨q1, q2, q3⟩ := restricts_plain O1.out O2.out O3.out
  have Q3 := Lib.hid q3
  have Q1 := Lib.hid q1
  have Q2 := Lib.hid q2
  clear q1 q2 q3
  obtain ⟨p0, p1, p2, p3, p4, p5, p6, p7, p8, p9, p10, p11, p12, p13, p14, p15, p16, p17⟩ := case_cells G.out
  obtain ⟨e10, e11, e12, -, -, -⟩ := elem_cells E1.out.heap
  go_wp2_with fail
  (with_reducible refine (restr_e RP.out E1.out.rows _ _ true Q1.out).mono ?_)
  rintro e v7 ⟨la4, sa4, ra4, nn4, rc4, rs4, er4, rfl, hrow, hk, hk2, hb⟩
  obtain ⟨rfl, rfl, rfl, rfl⟩ := hk rfl
  clear hk hk2
  replace B := hB B hb
  replace G := hG G hb
  replace RP := hR RP hb
  replace RA := hRow RA hb
  replace RB := hRow RB hb
  replace E1 := ElAt.below E1 hb
  replace E2 := ElAt.below E2 hb
  replace E3 := ElAt.below E3 hb
  clear p0 p1 p2 p3 p4 p5 p6 p7 p8 p9 p10 p11 p12 p13 p14 p15 p16 p17 e10 e11 e12
  clear hb
  go_upto_region 9 with (fail)
  have E4 := ElAt.new (la := level) (sa := special) hrow
  have hb := below_new v7 (.cells #[.int .i64 level, .bool special, .slice ra4 nn4 rc4] 28)
  obtain ⟨b4, hbd⟩ : ∃ z, z = v7.heap.size := ⟨_, rfl⟩
  rw [← hbd] at E4 ⊢
  generalize v7.alloc (.cells #[.int .i64 level, .bool special, .slice ra4 nn4 rc4] 28) = v8 at hb E4 ⊢
  replace B := hB B hb
  replace G := hG G hb
  replace RP := hR RP hb
  replace RA := hRow RA hb
  replace RB := hRow RB hb
  replace E1 := ElAt.below E1 hb
  replace E2 := ElAt.below E2 hb
  replace E3 := ElAt.below E3 hb
  clear hrow hb hbd
  obtain ⟨p0, p1, p2, p3, p4, p5, p6, p7, p8, p9, p10, p11, p12, p13, p14, p15, p16, p17⟩ := case_cells G.out
  obtain ⟨e20, e21, e22, -, -, -⟩ := elem_cells E2.out.heap
  obtain ⟨e30, e31, e32, -, -, -⟩ := elem_cells E3.out.heap
  go_wp2_with fail
  (with_reducible refine (mul_e RP.out E2.out.rows E3.out.rows _ rfl _ rfl true Q2.out).mono ?_)
  rintro e v9 ⟨la5, sa5, ra5, nn5, rc5, rs5, er5, rfl, hrow, hk, hk2, hb⟩
  obtain ⟨rfl, rfl, rfl, rfl⟩ := hk rfl
  clear hk hk2
  replace B := hB B hb
  replace G := hG G hb
  replace RP := hR RP hb
  replace RA := hRow RA hb
  replace RB := hRow RB hb
  replace E1 := ElAt.below E1 hb
  replace E2 := ElAt.below E2 hb
  replace E3 := ElAt.below E3 hb
  replace E4 := ElAt.below E4 hb
  clear p0 p1 p2 p3 p4 p5 p6 p7 p8 p9 p10 p11 p12 p13 p14 p15 p16 p17 e20 e21 e22 e30 e31 e32
  clear hb
  go_upto_region 10 with (fail)
  have E5 := ElAt.new (la := level) (sa := special) hrow
  have hb := below_new v9 (.cells #[.int .i64 level, .bool special, .slice ra5 nn5 rc5] 28)
  obtain ⟨b5, hbd⟩ : ∃ z, z = v9.heap.size := ⟨_, rfl⟩
  rw [← hbd] at E5 ⊢
  generalize v9.alloc (.cells #[.int .i64 level, .bool special, .slice ra5 nn5 rc5] 28) = v10 at hb E5 ⊢
  replace B := hB B hb
  replace G := hG G hb
  replace RP := hR RP hb
  replace RA := hRow RA hb
  replace RB := hRow RB hb
  replace E1 := ElAt.below E1 hb
  replace E2 := ElAt.below E2 hb
  replace E3 := ElAt.below E3 hb
  replace E4 := ElAt.below E4 hb
  clear hrow hb hbd
  obtain ⟨e40, e41, e42, -, -, -⟩ := elem_cells E4.out.heap
  obtain ⟨e50, e51, e52, -, -, -⟩ := elem_cells E5.out.heap
  go_wp2_with fail
  (with_reducible refine (lsame_any E4.out.rows E5.out.rows true (by rw [Q3.out]; simp)).mono ?_)
  rintro e v11 ⟨rfl, hb⟩
  replace B := hB B hb
  replace G := hG G hb
  replace RP := hR RP hb
  replace RA := hRow RA hb
  replace RB := hRow RB hb
  replace E1 := ElAt.below E1 hb
  replace E2 := ElAt.below E2 hb
  replace E3 := ElAt.below E3 hb
  replace E4 := ElAt.below E4 hb
  replace E5 := ElAt.below E5 hb
  clear e40 e41 e42 e50 e51 e52
  clear hb
  go_wp2_with fail
  (with_reducible refine (HAW.out _).mono ?_)
  rintro e wz ⟨rfl, hb⟩
  go_wp2
  rw [HP.out]
  exact ⟨rfl, below_via B.out hb⟩
end Go.Proofs.Ytkjlfjnncdkmlaa.G
