/- Walks: the law RingAutos. -/
import Derived.Test.YtkjlfjnncdkmlaaPA6
namespace Go.Proofs.Ytkjlfjnncdkmlaa.G
set_option linter.all false
open Go.RowKit Go.Shelf Go.BigFrame
attribute [local go_sem] Oper.semAt_some
set_option maxRecDepth 100000 in
set_option maxHeartbeats 16000000 in
theorem autos_law (c : RCase) (w : World) (h : c.reads w.heap.size w) (hkk : -9223372036854775808 ≤ c.kk ∧ c.kk ≤ 9223372036854775807) (l : Int) (hll : -9223372036854775808 ≤ l ∧ l ≤ 9223372036854775807) : Calls Try.prog 5 #[.agg c.cells, .int .i64 l] w fun e w' => e = .returned (.bool true) ∧ Below w.heap.size w w' := by
  obtain ⟨HPOST, hpost⟩ : ∃ R : Ending → World → Prop, R = fun e w' => e = .returned (.bool true) ∧ Below w.heap.size w w' := ⟨_, rfl⟩
  rw [← hpost]
  have HP := Lib.hid hpost
  have HAW := Lib.hid awake_any
  obtain ⟨N, pr, pw, wt, er, la, lb, num, kk, level, cv, av, bv, lw, sa, sb, special, chain, sp, xs, ys, ls⟩ := c
  have h1 : w.reads w.heap.size cv (chain.map u32V) := h.1
  have h2 : w.rows u32V w.heap.size av xs := h.2.1
  have h3 : w.rows u32V w.heap.size bv ys := h.2.2.1
  have h4 : w.reads w.heap.size lw (ls.map i64V) := h.2.2.2
  obtain ⟨W0, hW0⟩ : ∃ W0, W0 = w.alloc (.cells #[.int .i64 N, .int .u32 pr, .int .i64 pw, cv, .int .u32 (sp : Int), .int .i64 wt, .int .u32 er, .int .i64 la, .bool sa, av, .int .i64 lb, .bool sb, bv, .int .i64 num, .int .i64 kk, .int .i64 level, .bool special, lw] 31) := ⟨_, rfl⟩
  have hb : Below w.heap.size w W0 := by rw [hW0]; exact below_new w _
  have G : Hid (W0.heap[w.heap.size]? = some (.cells #[.int .i64 N, .int .u32 pr, .int .i64 pw, cv, .int .u32 (sp : Int), .int .i64 wt, .int .u32 er, .int .i64 la, .bool sa, av, .int .i64 lb, .bool sb, bv, .int .i64 num, .int .i64 kk, .int .i64 level, .bool special, lw] 31)) := by rw [hW0]; exact heap_alloc_new w _
  have RP := hR (Lib.hid h1) hb
  have RA := hRow (Lib.hid h2) hb
  have RB := hRow (Lib.hid h3) hb
  have RL := hR (Lib.hid h4) hb
  have B := Lib.hid hb
  have hlg := large_any ⟨N, pr, pw, wt, er, la, lb, num, kk, level, cv, av, bv, lw, sa, sb, special, chain, sp, xs, ys, ls⟩ W0 ⟨RP.out, RA.out, RB.out, RL.out⟩
  obtain ⟨lg, hlgd⟩ : ∃ b, b = largeB ⟨N, pr, pw, wt, er, la, lb, num, kk, level, cv, av, bv, lw, sa, sb, special, chain, sp, xs, ys, ls⟩ := ⟨_, rfl⟩
  rw [← hlgd] at hlg
  simp only [RCase.cells] at hlg ⊢
  have HLG := Lib.hid hlg
  have LG := Lib.hid hlgd
  have HW0 := Lib.hid hW0
  obtain ⟨p0, p1, p2, p3, p4, p5, p6, p7, p8, p9, p10, p11, p12, p13, p14, p15, p16, p17⟩ := case_cells G.out
  obtain ⟨o1, O1⟩ : ∃ o, Hid (o = (checkB N chain sp la sa xs && autB N kk)) := ⟨_, Lib.hid rfl⟩
  obtain ⟨o2, O2⟩ : ∃ o, Hid (o = (checkB N chain sp lb sb ys && autB N kk)) := ⟨_, Lib.hid rfl⟩
  obtain ⟨o3, O3⟩ : ∃ o, Hid (o = twoB N chain sp la lb sa sb xs ys) := ⟨_, Lib.hid rfl⟩
  have KW : Hid (-9223372036854775808 ≤ kk ∧ kk ≤ 9223372036854775807) := hkk
  have LW : Hid (-9223372036854775808 ≤ l ∧ l ≤ 9223372036854775807) := hll
  clear hkk hll
  clear hpost hb h h1 h2 h3 h4 hlg hlgd hW0
  go_enter Try.func5, Try.ntmps5
  go_upto_region 1 with (fail)
  rw [← HW0.out]
  obtain ⟨pc, hpc⟩ : ∃ z, z = w.heap.size := ⟨_, rfl⟩
  rw [← hpc] at G p0 p1 p2 p3 p4 p5 p6 p7 p8 p9 p10 p11 p12 p13 p14 p15 p16 p17 ⊢
  clear hpc HW0
  go_wp2_with fail
  (with_reducible refine HLG.out.mono ?_)
  rintro e v0 ⟨rfl, hb⟩
  replace B := hB B hb
  replace G := hG G hb
  replace RP := hR RP hb
  replace RA := hRow RA hb
  replace RB := hRow RB hb
  replace RL := hR RL hb
  clear hb HLG p0 p1 p2 p3 p4 p5 p6 p7 p8 p9 p10 p11 p12 p13 p14 p15 p16 p17
  cases lg with
  | true =>
    go_wp2_with fail
    (with_reducible refine (HAW.out _).mono ?_)
    rintro e wz ⟨rfl, hb⟩
    go_wp2
    rw [HP.out]
    exact ⟨rfl, below_via B.out hb⟩
  | false =>
  obtain ⟨p0, p1, p2, p3, p4, p5, p6, p7, p8, p9, p10, p11, p12, p13, p14, p15, p16, p17⟩ := case_cells G.out
  go_wp2_with fail
  (with_reducible refine (auto_e RP.out RA.out kk KW.out _ rfl _ rfl o1 O1.out).mono ?_)
  rintro e v1 ⟨la1, sa1, ra1, nn1, rc1, rs1, er1, rfl, hrow, hk, hk2, hb⟩
  have K1 := Lib.hid hk
  have J1 := Lib.hid hk2
  clear hk hk2
  replace B := hB B hb
  replace G := hG G hb
  replace RP := hR RP hb
  replace RA := hRow RA hb
  replace RB := hRow RB hb
  clear p0 p1 p2 p3 p4 p5 p6 p7 p8 p9 p10 p11 p12 p13 p14 p15 p16 p17
  clear hb
  go_upto_region 4 with (fail)
  have E1 := ElAt.new (la := la1) (sa := sa1) hrow
  have hb := below_new v1 (.cells #[.int .i64 la1, .bool sa1, .slice ra1 nn1 rc1] 28)
  obtain ⟨b1, hbd⟩ : ∃ z, z = v1.heap.size := ⟨_, rfl⟩
  rw [← hbd] at E1 ⊢
  generalize v1.alloc (.cells #[.int .i64 la1, .bool sa1, .slice ra1 nn1 rc1] 28) = v2 at hb E1 ⊢
  replace B := hB B hb
  replace G := hG G hb
  replace RP := hR RP hb
  replace RA := hRow RA hb
  replace RB := hRow RB hb
  clear hrow hb hbd
  obtain ⟨p0, p1, p2, p3, p4, p5, p6, p7, p8, p9, p10, p11, p12, p13, p14, p15, p16, p17⟩ := case_cells G.out
  go_wp2_with fail
  (with_reducible refine (auto_e RP.out RB.out kk KW.out _ rfl _ rfl o2 O2.out).mono ?_)
  rintro e v3 ⟨la2, sa2, ra2, nn2, rc2, rs2, er2, rfl, hrow, hk, hk2, hb⟩
  have K2 := Lib.hid hk
  have J2 := Lib.hid hk2
  clear hk hk2
  replace B := hB B hb
  replace G := hG G hb
  replace RP := hR RP hb
  replace RA := hRow RA hb
  replace RB := hRow RB hb
  replace E1 := ElAt.below E1 hb
  clear p0 p1 p2 p3 p4 p5 p6 p7 p8 p9 p10 p11 p12 p13 p14 p15 p16 p17
  clear hb
  go_upto_region 5 with (fail)
  have E2 := ElAt.new (la := la2) (sa := sa2) hrow
  have hb := below_new v3 (.cells #[.int .i64 la2, .bool sa2, .slice ra2 nn2 rc2] 28)
  obtain ⟨b2, hbd⟩ : ∃ z, z = v3.heap.size := ⟨_, rfl⟩
  rw [← hbd] at E2 ⊢
  generalize v3.alloc (.cells #[.int .i64 la2, .bool sa2, .slice ra2 nn2 rc2] 28) = v4 at hb E2 ⊢
  replace B := hB B hb
  replace G := hG G hb
  replace RP := hR RP hb
  replace RA := hRow RA hb
  replace RB := hRow RB hb
  replace E1 := ElAt.below E1 hb
  clear hrow hb hbd
  obtain ⟨p0, p1, p2, p3, p4, p5, p6, p7, p8, p9, p10, p11, p12, p13, p14, p15, p16, p17⟩ := case_cells G.out
  go_wp2_with fail
  (with_reducible refine (mul_e RP.out RA.out RB.out _ rfl _ rfl o3 O3.out).mono ?_)
  rintro e v5 ⟨la3, sa3, ra3, nn3, rc3, rs3, er3, rfl, hrow, hk, hk2, hb⟩
  have K3 := Lib.hid hk
  have J3 := Lib.hid hk2
  clear hk hk2
  replace B := hB B hb
  replace G := hG G hb
  replace RP := hR RP hb
  replace RA := hRow RA hb
  replace RB := hRow RB hb
  replace E1 := ElAt.below E1 hb
  replace E2 := ElAt.below E2 hb
  clear p0 p1 p2 p3 p4 p5 p6 p7 p8 p9 p10 p11 p12 p13 p14 p15 p16 p17
  clear hb
  go_upto_region 6 with (fail)
  have E3 := ElAt.new (la := la3) (sa := sa3) hrow
  have hb := below_new v5 (.cells #[.int .i64 la3, .bool sa3, .slice ra3 nn3 rc3] 28)
  obtain ⟨b3, hbd⟩ : ∃ z, z = v5.heap.size := ⟨_, rfl⟩
  rw [← hbd] at E3 ⊢
  generalize v5.alloc (.cells #[.int .i64 la3, .bool sa3, .slice ra3 nn3 rc3] 28) = v6 at hb E3 ⊢
  replace B := hB B hb
  replace G := hG G hb
  replace RP := hR RP hb
  replace RA := hRow RA hb
  replace RB := hRow RB hb
  replace E1 := ElAt.below E1 hb
  replace E2 := ElAt.below E2 hb
  clear hrow hb hbd
  cases o1 with
  | false =>
    obtain rfl : 2 = er1 := by first | exact (J1.out rfl).2.2.2 | exact (J1.out trivial).2.2.2
    go_wp2_with fail
    (with_reducible refine (HAW.out _).mono ?_)
    rintro e wz ⟨rfl, hb⟩
    go_wp2
    rw [HP.out]
    exact ⟨rfl, below_via B.out hb⟩
  | true =>
  obtain ⟨rfl, rfl, rfl, rfl⟩ := (by first | exact K1.out rfl | exact K1.out trivial : _ = la1 ∧ _ = sa1 ∧ _ = rs1 ∧ _ = er1)
  clear K1 J1
  cases o2 with
  | false =>
    obtain rfl : 2 = er2 := by first | exact (J2.out rfl).2.2.2 | exact (J2.out trivial).2.2.2
    go_wp2_with fail
    (with_reducible refine (HAW.out _).mono ?_)
    rintro e wz ⟨rfl, hb⟩
    go_wp2
    rw [HP.out]
    exact ⟨rfl, below_via B.out hb⟩
  | true =>
  obtain ⟨rfl, rfl, rfl, rfl⟩ := (by first | exact K2.out rfl | exact K2.out trivial : _ = la2 ∧ _ = sa2 ∧ _ = rs2 ∧ _ = er2)
  clear K2 J2
  cases o3 with
  | false =>
    obtain rfl : 2 = er3 := by first | exact (J3.out rfl).2.2.2 | exact (J3.out trivial).2.2.2
    go_wp2_with fail
    (with_reducible refine (HAW.out _).mono ?_)
    rintro e wz ⟨rfl, hb⟩
    go_wp2
    rw [HP.out]
    exact ⟨rfl, below_via B.out hb⟩
  | true =>
  obtain ⟨rfl, rfl, rfl, rfl⟩ := (by first | exact K3.out rfl | exact K3.out trivial : _ = la3 ∧ _ = sa3 ∧ _ = rs3 ∧ _ = er3)
  clear K3 J3
  obtain ⟨q1, q2, q3⟩ := autos_plain O1.out O2.out O3.out
  have Q3 := Lib.hid q3
  have Q1 := Lib.hid q1
  have Q2 := Lib.hid q2
  clear q1 q2 q3
  obtain ⟨p0, p1, p2, p3, p4, p5, p6, p7, p8, p9, p10, p11, p12, p13, p14, p15, p16, p17⟩ := case_cells G.out
  obtain ⟨e30, e31, e32, -, -, -⟩ := elem_cells E3.out.heap
  go_wp2_with fail
  (with_reducible refine (auto_e RP.out E3.out.rows kk KW.out _ rfl _ rfl true Q1.out).mono ?_)
  rintro e v7 ⟨la4, sa4, ra4, nn4, rc4, rs4, er4, rfl, hrow, hk, hk2, hb⟩
  obtain ⟨rfl, rfl, rfl, rfl⟩ := hk rfl
  clear hk hk2
  replace B := hB B hb
  replace G := hG G hb
  replace RP := hR RP hb
  replace RA := hRow RA hb
  replace RB := hRow RB hb
  replace E1 := ElAt.below E1 hb
  replace E2 := ElAt.below E2 hb
  replace E3 := ElAt.below E3 hb
  clear p0 p1 p2 p3 p4 p5 p6 p7 p8 p9 p10 p11 p12 p13 p14 p15 p16 p17 e30 e31 e32
  clear hb
  go_upto_region 9 with (fail)
  have E4 := ElAt.new (la := la) (sa := sa) hrow
  have hb := below_new v7 (.cells #[.int .i64 la, .bool sa, .slice ra4 nn4 rc4] 28)
  obtain ⟨b4, hbd⟩ : ∃ z, z = v7.heap.size := ⟨_, rfl⟩
  rw [← hbd] at E4 ⊢
  generalize v7.alloc (.cells #[.int .i64 la, .bool sa, .slice ra4 nn4 rc4] 28) = v8 at hb E4 ⊢
  replace B := hB B hb
  replace G := hG G hb
  replace RP := hR RP hb
  replace RA := hRow RA hb
  replace RB := hRow RB hb
  replace E1 := ElAt.below E1 hb
  replace E2 := ElAt.below E2 hb
  replace E3 := ElAt.below E3 hb
  clear hrow hb hbd
  obtain ⟨p0, p1, p2, p3, p4, p5, p6, p7, p8, p9, p10, p11, p12, p13, p14, p15, p16, p17⟩ := case_cells G.out
  obtain ⟨e10, e11, e12, -, -, -⟩ := elem_cells E1.out.heap
  obtain ⟨e20, e21, e22, -, -, -⟩ := elem_cells E2.out.heap
  go_wp2_with fail
  (with_reducible refine (mul_e RP.out E1.out.rows E2.out.rows _ rfl _ rfl true Q2.out).mono ?_)
  rintro e v9 ⟨la5, sa5, ra5, nn5, rc5, rs5, er5, rfl, hrow, hk, hk2, hb⟩
  obtain ⟨rfl, rfl, rfl, rfl⟩ := hk rfl
  clear hk hk2
  replace B := hB B hb
  replace G := hG G hb
  replace RP := hR RP hb
  replace RA := hRow RA hb
  replace RB := hRow RB hb
  replace E1 := ElAt.below E1 hb
  replace E2 := ElAt.below E2 hb
  replace E3 := ElAt.below E3 hb
  replace E4 := ElAt.below E4 hb
  clear p0 p1 p2 p3 p4 p5 p6 p7 p8 p9 p10 p11 p12 p13 p14 p15 p16 p17 e10 e11 e12 e20 e21 e22
  clear hb
  go_upto_region 10 with (fail)
  have E5 := ElAt.new (la := la) (sa := sa) hrow
  have hb := below_new v9 (.cells #[.int .i64 la, .bool sa, .slice ra5 nn5 rc5] 28)
  obtain ⟨b5, hbd⟩ : ∃ z, z = v9.heap.size := ⟨_, rfl⟩
  rw [← hbd] at E5 ⊢
  generalize v9.alloc (.cells #[.int .i64 la, .bool sa, .slice ra5 nn5 rc5] 28) = v10 at hb E5 ⊢
  replace B := hB B hb
  replace G := hG G hb
  replace RP := hR RP hb
  replace RA := hRow RA hb
  replace RB := hRow RB hb
  replace E1 := ElAt.below E1 hb
  replace E2 := ElAt.below E2 hb
  replace E3 := ElAt.below E3 hb
  replace E4 := ElAt.below E4 hb
  clear hrow hb hbd
  obtain ⟨e40, e41, e42, -, -, -⟩ := elem_cells E4.out.heap
  obtain ⟨e50, e51, e52, -, -, -⟩ := elem_cells E5.out.heap
  go_wp2_with fail
  (with_reducible refine (lsame_any E4.out.rows E5.out.rows true (by rw [Q3.out]; simp)).mono ?_)
  rintro e v11 ⟨rfl, hb⟩
  replace B := hB B hb
  replace G := hG G hb
  replace RP := hR RP hb
  replace RA := hRow RA hb
  replace RB := hRow RB hb
  replace E1 := ElAt.below E1 hb
  replace E2 := ElAt.below E2 hb
  replace E3 := ElAt.below E3 hb
  replace E4 := ElAt.below E4 hb
  replace E5 := ElAt.below E5 hb
  clear e40 e41 e42 e50 e51 e52
  clear hb
  clear E2 E3 E4 E5 RB
  obtain ⟨o6, O6⟩ : ∃ o, Hid (o = (checkB N chain sp la sa (zipRows (autR N.toNat kk.toNat) (modl chain sp la.toNat sa) xs xs (modl chain sp la.toNat sa).length) && autB N l)) := ⟨_, Lib.hid rfl⟩
  obtain ⟨p0, p1, p2, p3, p4, p5, p6, p7, p8, p9, p10, p11, p12, p13, p14, p15, p16, p17⟩ := case_cells G.out
  obtain ⟨e10, e11, e12, -, -, -⟩ := elem_cells E1.out.heap
  go_wp2_with fail
  (with_reducible refine (auto_e RP.out E1.out.rows l LW.out _ rfl _ rfl o6 O6.out).mono ?_)
  rintro e v12 ⟨la6, sa6, ra6, nn6, rc6, rs6, er6, rfl, hrow, hk, hk2, hb⟩
  have K6 := Lib.hid hk
  have J6 := Lib.hid hk2
  clear hk hk2
  replace B := hB B hb
  replace G := hG G hb
  replace RP := hR RP hb
  replace RA := hRow RA hb
  replace E1 := ElAt.below E1 hb
  clear p0 p1 p2 p3 p4 p5 p6 p7 p8 p9 p10 p11 p12 p13 p14 p15 p16 p17 e10 e11 e12
  clear hb
  go_upto_region 13 with (fail)
  have E6 := ElAt.new (la := la6) (sa := sa6) hrow
  have hb := below_new v12 (.cells #[.int .i64 la6, .bool sa6, .slice ra6 nn6 rc6] 28)
  obtain ⟨b6, hbd⟩ : ∃ z, z = v12.heap.size := ⟨_, rfl⟩
  rw [← hbd] at E6 ⊢
  generalize v12.alloc (.cells #[.int .i64 la6, .bool sa6, .slice ra6 nn6 rc6] 28) = v13 at hb E6 ⊢
  replace B := hB B hb
  replace G := hG G hb
  replace RP := hR RP hb
  replace RA := hRow RA hb
  replace E1 := ElAt.below E1 hb
  clear hrow hb hbd
  cases o6 with
  | false =>
    obtain rfl : 2 = er6 := by first | exact (J6.out rfl).2.2.2 | exact (J6.out trivial).2.2.2
    go_wp2_with fail
    (with_reducible refine (HAW.out _).mono ?_)
    rintro e wz ⟨rfl, hb⟩
    go_wp2
    rw [HP.out]
    exact ⟨rfl, below_via B.out hb⟩
  | true =>
  obtain ⟨rfl, rfl, rfl, rfl⟩ := (by first | exact K6.out rfl | exact K6.out trivial : _ = la6 ∧ _ = sa6 ∧ _ = rs6 ∧ _ = er6)
  clear K6 J6
  obtain ⟨n1, n2, n3, n4, n5, n6, n7, n8, n9, q1, q2⟩ := autos2_plain O1.out O6.out
  have Q4 := Lib.hid q1
  have Q5 := Lib.hid q2
  have t1 : ¬ N < 4 := by omega
  have t2 : ¬ 32 < N := by omega
  have t3 : ¬ 64 < kk := by omega
  have t4 : ¬ 64 < l := by omega
  clear q1 q2
  obtain ⟨p0, p1, p2, p3, p4, p5, p6, p7, p8, p9, p10, p11, p12, p13, p14, p15, p16, p17⟩ := case_cells G.out
  as_aux_lemma =>
    go_upto_region 17 with (fail)
    clear p1 p2 p3 p4 p5 p6 p7 p8 p9 p10 p11 p12 p13 p15 p16 p17 p0 p14 t1 t2 t3 t4
    obtain ⟨r, hr⟩ : ∃ r, r = (kk * l).tmod (2 * N) := ⟨_, rfl⟩
    rw [← hr] at n8 n9 Q4 Q5
    obtain ⟨m, hm⟩ : ∃ m, m = kk * l := ⟨_, rfl⟩
    rw [← hm] at n7 hr
    obtain ⟨d, hd⟩ : ∃ d, d = 2 * N := ⟨_, rfl⟩
    rw [← hd] at hr
    have f1 : IntKind.i64.wrap (kk * l) = m := by rw [← hm]; exact n7
    have f2 : IntKind.i64.wrap (2 * N) = d := by rw [IntWalk.i64_in _ ⟨by omega, by omega⟩, hd]
    have f3 : ¬ d = 0 := by omega
    have f4 : m.tmod d = r := hr.symm
    have f5 : IntKind.i64.wrap r = r := IntWalk.i64_in _ ⟨by omega, by omega⟩
    have RW : Hid (-9223372036854775808 ≤ r ∧ r ≤ 9223372036854775807) := ⟨by omega, by omega⟩
    clear n7 hr hm hd n1 n2 n3 n4 n5 n6 n8 n9
    have hS0 : ∀ W, Below v13.heap.size v13 W → W.cell? ⟨pc, 0, none⟩ = some (.int .i64 N) ∧ W.cell? ⟨pc, 1, none⟩ = some (.int .u32 pr) ∧ W.cell? ⟨pc, 2, none⟩ = some (.int .i64 pw) ∧ W.cell? ⟨pc, 3, none⟩ = some cv ∧ W.cell? ⟨pc, 4, none⟩ = some (.int .u32 (sp : Int)) ∧ W.cell? ⟨pc, 5, none⟩ = some (.int .i64 wt) ∧ W.cell? ⟨pc, 6, none⟩ = some (.int .u32 er) ∧ W.cell? ⟨pc, 7, none⟩ = some (.int .i64 la) ∧ W.cell? ⟨pc, 8, none⟩ = some (.bool sa) ∧ W.cell? ⟨pc, 9, none⟩ = some av ∧ W.cell? ⟨pc, 14, none⟩ = some (.int .i64 kk) := fun W hb => by
      obtain ⟨p0, p1, p2, p3, p4, p5, p6, p7, p8, p9, p10, p11, p12, p13, p14, p15, p16, p17⟩ := case_cells (hG G hb).out
      exact ⟨p0, p1, p2, p3, p4, p5, p6, p7, p8, p9, p14⟩
    refine wp_region_AE 18 16 v13.heap.size (fun W => W.cell? ⟨pc, 0, none⟩ = some (.int .i64 N) ∧ W.cell? ⟨pc, 1, none⟩ = some (.int .u32 pr) ∧ W.cell? ⟨pc, 2, none⟩ = some (.int .i64 pw) ∧ W.cell? ⟨pc, 3, none⟩ = some cv ∧ W.cell? ⟨pc, 4, none⟩ = some (.int .u32 (sp : Int)) ∧ W.cell? ⟨pc, 5, none⟩ = some (.int .i64 wt) ∧ W.cell? ⟨pc, 6, none⟩ = some (.int .u32 er) ∧ W.cell? ⟨pc, 7, none⟩ = some (.int .i64 la) ∧ W.cell? ⟨pc, 8, none⟩ = some (.bool sa) ∧ W.cell? ⟨pc, 9, none⟩ = some av ∧ W.cell? ⟨pc, 14, none⟩ = some (.int .i64 kk)) (fun W => Below v13.heap.size v13 W) (fun j => decide (18 ≤ j)) (by kernel_rfl) rfl (by kernel_rfl) (fun _ _ _ _ h => h) (by kernel_rfl) (fact_below (Nat.le_refl _) hS0) ((Below.refl _ _).drew) (fun hF => ?_)
    refine wpAnyA_alloc 17 (.cells #[.int .i64 0, .bool false, .slice none 0 0] 28) (by kernel_rfl) rfl rfl (by kernel_rfl) (by kernel_rfl) (fun _ => rfl) (fun _ _ => rfl) (fun _ _ _ _ h => h) hF ?_
    try simp only [Act.put, List.setIfInBounds_toArray, List.set_cons_zero, List.set_cons_succ]
    refine wpAnyA_take 0 (v := ?_) (by kernel_rfl) rfl rfl (by kernel_rfl) (by kernel_rfl) (fun _ _ _ h => h) (Or.inl ⟨by rfl, ?_⟩) (by assumption) ?_
    rotate_left
    · (intro wq hSq; (try dsimp only at hSq); go_simp; try with_reducible rfl)
    try simp only [Act.put, List.setIfInBounds_toArray, List.set_cons_zero, List.set_cons_succ]
    refine wpAnyA_take 1 (v := ?_) (by kernel_rfl) rfl rfl (by kernel_rfl) (by kernel_rfl) (fun _ _ _ h => h) (Or.inl ⟨by rfl, ?_⟩) (by assumption) ?_
    rotate_left
    · (intro wq hSq; (try dsimp only at hSq); go_simp; try with_reducible rfl)
    try simp only [Act.put, List.setIfInBounds_toArray, List.set_cons_zero, List.set_cons_succ]
    refine wpAnyA_take 2 (v := ?_) (by kernel_rfl) rfl rfl (by kernel_rfl) (by kernel_rfl) (fun _ _ _ h => h) (Or.inl ⟨by rfl, ?_⟩) (by assumption) ?_
    rotate_left
    · (intro wq hSq; (try dsimp only at hSq); go_simp; try with_reducible rfl)
    try simp only [Act.put, List.setIfInBounds_toArray, List.set_cons_zero, List.set_cons_succ]
    refine wpAnyA_take 3 (v := ?_) (by kernel_rfl) rfl rfl (by kernel_rfl) (by kernel_rfl) (fun _ _ _ h => h) (Or.inl ⟨by rfl, ?_⟩) (by assumption) ?_
    rotate_left
    · (intro wq hSq; (try dsimp only at hSq); go_simp; try with_reducible rfl)
    try simp only [Act.put, List.setIfInBounds_toArray, List.set_cons_zero, List.set_cons_succ]
    refine wpAnyA_take 4 (v := ?_) (by kernel_rfl) rfl rfl (by kernel_rfl) (by kernel_rfl) (fun _ _ _ h => h) (Or.inl ⟨by rfl, ?_⟩) (by assumption) ?_
    rotate_left
    · (intro wq hSq; (try dsimp only at hSq); go_simp; try with_reducible rfl)
    try simp only [Act.put, List.setIfInBounds_toArray, List.set_cons_zero, List.set_cons_succ]
    refine wpAnyA_take 5 (v := ?_) (by kernel_rfl) rfl rfl (by kernel_rfl) (by kernel_rfl) (fun _ _ _ h => h) (Or.inl ⟨by rfl, ?_⟩) (by assumption) ?_
    rotate_left
    · (intro wq hSq; (try dsimp only at hSq); go_simp; try with_reducible rfl)
    try simp only [Act.put, List.setIfInBounds_toArray, List.set_cons_zero, List.set_cons_succ]
    refine wpAnyA_take 6 (v := ?_) (by kernel_rfl) rfl rfl (by kernel_rfl) (by kernel_rfl) (fun _ _ _ h => h) (Or.inl ⟨by rfl, ?_⟩) (by assumption) ?_
    rotate_left
    · (intro wq hSq; (try dsimp only at hSq); go_simp; try with_reducible rfl)
    try simp only [Act.put, List.setIfInBounds_toArray, List.set_cons_zero, List.set_cons_succ]
    refine wpAnyA_take 7 (v := ?_) (by kernel_rfl) rfl rfl (by kernel_rfl) (by kernel_rfl) (fun _ _ _ h => h) (Or.inl ⟨by rfl, ?_⟩) (by assumption) ?_
    rotate_left
    · (intro wq hSq; (try dsimp only at hSq); go_simp; try with_reducible rfl)
    try simp only [Act.put, List.setIfInBounds_toArray, List.set_cons_zero, List.set_cons_succ]
    refine wpAnyA_take 8 (v := ?_) (by kernel_rfl) rfl rfl (by kernel_rfl) (by kernel_rfl) (fun _ _ _ h => h) (Or.inl ⟨by rfl, ?_⟩) (by assumption) ?_
    rotate_left
    · (intro wq hSq; (try dsimp only at hSq); go_simp; try with_reducible rfl)
    try simp only [Act.put, List.setIfInBounds_toArray, List.set_cons_zero, List.set_cons_succ]
    refine wpAnyA_take 9 (v := ?_) (by kernel_rfl) rfl rfl (by kernel_rfl) (by kernel_rfl) (fun _ _ _ h => h) (Or.inl ⟨by rfl, ?_⟩) (by assumption) ?_
    rotate_left
    · (intro wq hSq; (try dsimp only at hSq); go_simp; try with_reducible rfl)
    try simp only [Act.put, List.setIfInBounds_toArray, List.set_cons_zero, List.set_cons_succ]
    refine wpAnyA_take 10 (v := ?_) (by kernel_rfl) rfl rfl (by kernel_rfl) (by kernel_rfl) (fun _ _ _ h => h) (Or.inl ⟨by rfl, ?_⟩) (by assumption) ?_
    rotate_left
    · (intro wq hSq; (try dsimp only at hSq); go_simp; try with_reducible rfl)
    try simp only [Act.put, List.setIfInBounds_toArray, List.set_cons_zero, List.set_cons_succ]
    refine wpAnyA_take 11 (v := ?_) (by kernel_rfl) rfl rfl (by kernel_rfl) (by kernel_rfl) (fun _ _ _ h => h) (Or.inl ⟨by rfl, ?_⟩) (by assumption) ?_
    rotate_left
    · (intro wq hSq; (try dsimp only at hSq); go_simp; try with_reducible rfl)
    try simp only [Act.put, List.setIfInBounds_toArray, List.set_cons_zero, List.set_cons_succ]
    refine wpAnyA_take 12 (v := ?_) (by kernel_rfl) rfl rfl (by kernel_rfl) (by kernel_rfl) (fun _ _ _ h => h) (Or.inl ⟨by rfl, ?_⟩) (by assumption) ?_
    rotate_left
    · (intro wq hSq; (try dsimp only at hSq); go_simp; try with_reducible rfl)
    try simp only [Act.put, List.setIfInBounds_toArray, List.set_cons_zero, List.set_cons_succ]
    refine wpAnyA_step 13 (by kernel_rfl) rfl rfl (fun wq (hFq : Below v13.heap.size v13 wq) K hK => ?_)
    go_simp
    (with_reducible refine (auto_any N pr pw wt er cv chain sp la sa av xs r RW.out wq (hR RP hFq).out (hRow RA hFq).out).mono ?_)
    rw [← Q4.out]
    rintro e v19 ⟨he, hb⟩
    rw [if_pos rfl] at he
    obtain ⟨rv, rfl, hrow⟩ := he
    obtain ⟨ra7, rc7, rfl⟩ := hrow.open_
    obtain ⟨nn7, hnn7⟩ : ∃ z, z = (zipRows (autR N.toNat r.toNat) (modl chain sp la.toNat sa) xs xs (modl chain sp la.toNat sa).length).length := ⟨_, rfl⟩
    rw [← hnn7] at hrow ⊢
    clear hnn7
    have hd6 : Below v13.heap.size v13 v19 := below_via hFq hb
    have hF6 : Fact v13.heap.size (fun W => W.cell? ⟨pc, 0, none⟩ = some (.int .i64 N) ∧ W.cell? ⟨pc, 1, none⟩ = some (.int .u32 pr) ∧ W.cell? ⟨pc, 2, none⟩ = some (.int .i64 pw) ∧ W.cell? ⟨pc, 3, none⟩ = some cv ∧ W.cell? ⟨pc, 4, none⟩ = some (.int .u32 (sp : Int)) ∧ W.cell? ⟨pc, 5, none⟩ = some (.int .i64 wt) ∧ W.cell? ⟨pc, 6, none⟩ = some (.int .u32 er) ∧ W.cell? ⟨pc, 7, none⟩ = some (.int .i64 la) ∧ W.cell? ⟨pc, 8, none⟩ = some (.bool sa) ∧ W.cell? ⟨pc, 9, none⟩ = some av ∧ W.cell? ⟨pc, 14, none⟩ = some (.int .i64 kk)) (fun W => Below v19.heap.size v19 W) := fact_below hd6.size (fun W hb => hS0 W (below_via hd6 hb))
    refine hK.out _ _ hb (fun W => Below v19.heap.size v19 W) hF6 (Below.refl _ _) ?_
    clear hK K hFq hb
    try simp only [Act.put, List.setIfInBounds_toArray, List.set_cons_zero, List.set_cons_succ]
    refine wpAnyA_take 14 (v := ?_) (by kernel_rfl) rfl rfl (by kernel_rfl) (by kernel_rfl) (fun _ _ _ h => h) (Or.inl ⟨by rfl, ?_⟩) (by assumption) ?_
    rotate_left
    · (intro wq hSq; (try dsimp only at hSq); go_simp; try with_reducible rfl)
    try simp only [Act.put, List.setIfInBounds_toArray, List.set_cons_zero, List.set_cons_succ]
    refine wpAnyA_take 15 (v := ?_) (by kernel_rfl) rfl rfl (by kernel_rfl) (by kernel_rfl) (fun _ _ _ h => h) (Or.inl ⟨by rfl, ?_⟩) (by assumption) ?_
    rotate_left
    · (intro wq hSq; (try dsimp only at hSq); go_simp; try with_reducible rfl)
    try simp only [Act.put, List.setIfInBounds_toArray, List.set_cons_zero, List.set_cons_succ]
    refine wpAnyA_take 16 (v := ?_) (by kernel_rfl) rfl rfl (by kernel_rfl) (by kernel_rfl) (fun _ _ _ h => h) (Or.inl ⟨by rfl, ?_⟩) (by assumption) ?_
    rotate_left
    · (intro wq hSq; (try dsimp only at hSq); go_simp; try with_reducible rfl)
    try simp only [Act.put, List.setIfInBounds_toArray, List.set_cons_zero, List.set_cons_succ]
    refine wpAnyA_end (by kernel_rfl) (fun x0 (hFx : Below v19.heap.size v19 x0) => ?_)
    intro q hq hq7
    have hrow0 := hrow.below hFx
    have hs15 := hFx.size
    have hd0 : Below v13.heap.size v13 x0 := below_via hd6 hFx
    clear hF hF6 hS0 hd6 hFx hrow f1 f2 f3 f4 f5
    obtain ⟨e0, e1, e2, y0, y1, y2⟩ := elem_cells hq7
    refine wpAny_of_D (S := fun _ => True) (late := fun _ => true) _ _ _ _ ?_
    refine wpAnyD_step 18 (by kernel_rfl) rfl rfl (fun K hK => ?_)
    simp only [moreAfter]
    go_simp
    refine hK.out _ _ ?_
    clear hK K e0 e1 e2 y0 y1 y2
    try simp only [Act.put, List.setIfInBounds_toArray, List.set_cons_zero, List.set_cons_succ]
    have hd1 : Below v13.heap.size v13 (((x0.setCell ⟨q, 0, none⟩ (.int .i64 la)).setCell ⟨q, 1, none⟩ (.bool sa)).setCell ⟨q, 2, none⟩ (.slice ra7 nn7 rc7)) := ((hd0.setCell hq _).setCell hq _).setCell hq _
    have hr1 := (rowsO_elem (.int .i64 la) (.bool sa) (.slice ra7 nn7 rc7) hrow0 hq7).rows
    have m0 : (((x0.setCell ⟨q, 0, none⟩ (.int .i64 la)).setCell ⟨q, 1, none⟩ (.bool sa)).setCell ⟨q, 2, none⟩ (.slice ra7 nn7 rc7)).heap[q]? = some (.cells #[.int .i64 la, .bool sa, .slice ra7 nn7 rc7] 28) := by simp [World.setCell, Array.getElem?_modify, hq7]
    clear hq7 hd0 hq hrow0
    generalize ((x0.setCell ⟨q, 0, none⟩ (.int .i64 la)).setCell ⟨q, 1, none⟩ (.bool sa)).setCell ⟨q, 2, none⟩ (.slice ra7 nn7 rc7) = v20 at m0 hd1 hr1 ⊢
    refine wpAnyD_step 19 (by kernel_rfl) rfl rfl (fun K hK => ?_)
    go_simp
    refine hK.out _ _ ?_
    clear hK K
    try simp only [Act.put, List.setIfInBounds_toArray, List.set_cons_zero, List.set_cons_succ]
    refine wpAnyD_end (by kernel_rfl) ?_
    have E7 : Hid (ElAt v20 q la sa (.slice ra7 nn7 rc7) _) := ⟨m0, hr1⟩
    replace B := hB B hd1
    replace E6 := ElAt.below E6 hd1
    clear hd1 hr1 m0 G RP RA E1
    obtain ⟨e0, e1, e2, -, -, -⟩ := elem_cells E7.out.heap
    obtain ⟨g0, g1, g2, -, -, -⟩ := elem_cells E6.out.heap
    go_wp2_with fail
    (with_reducible refine (lsame_any E7.out.rows E6.out.rows true (by rw [Q5.out]; simp)).mono ?_)
    rintro e v14 ⟨rfl, hb⟩
    replace B := hB B hb
    clear hb e0 e1 e2 g0 g1 g2
    go_wp2_with fail
    (with_reducible refine (HAW.out _).mono ?_)
    rintro e wz ⟨rfl, hb⟩
    go_wp2
    rw [HP.out]
    exact ⟨rfl, below_via B.out hb⟩
end Go.Proofs.Ytkjlfjnncdkmlaa.G
