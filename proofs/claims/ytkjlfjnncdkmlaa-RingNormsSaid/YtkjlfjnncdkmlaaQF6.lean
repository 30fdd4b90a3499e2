/- Walks: the law RingNorms. -/
import Derived.Test.YtkjlfjnncdkmlaaPD6
namespace Go.Proofs.Ytkjlfjnncdkmlaa.G
set_option linter.all false
open Go.RowKit Go.Shelf Go.BigFrame Go.WideNum
attribute [local go_sem] Oper.semAt_some
set_option maxRecDepth 100000 in
set_option maxHeartbeats 16000000 in
theorem norms_law (c : RCase) (w : World) (h : c.reads w.heap.size w) (hkk : -9223372036854775808 ≤ c.kk ∧ c.kk ≤ 9223372036854775807) : Calls Try.prog 9 #[.agg c.cells] w fun e w' => e = .returned (.bool true) ∧ Below w.heap.size w w' := by
  obtain ⟨HPOST, hpost⟩ : ∃ R : Ending → World → Prop, R = fun e w' => e = .returned (.bool true) ∧ Below w.heap.size w w' := ⟨_, rfl⟩
  rw [← hpost]
  have HP := Lib.hid hpost
  have HAW := Lib.hid awake_any
  obtain ⟨N, pr, pw, wt, er, la, lb, num, kk, level, cv, av, bv, lw, sa, sb, special, chain, sp, xs, ys, ls⟩ := c
  have h1 : w.reads w.heap.size cv (chain.map u32V) := h.1
  have h2 : w.rows u32V w.heap.size av xs := h.2.1
  have h3 : w.rows u32V w.heap.size bv ys := h.2.2.1
  have h4 : w.reads w.heap.size lw (ls.map i64V) := h.2.2.2
  obtain ⟨W0, hW0⟩ : ∃ W0, W0 = w.alloc (.cells #[.int .i64 N, .int .u32 pr, .int .i64 pw, cv, .int .u32 (sp : Int), .int .i64 wt, .int .u32 er, .int .i64 la, .bool sa, av, .int .i64 lb, .bool sb, bv, .int .i64 num, .int .i64 kk, .int .i64 level, .bool special, lw] 31) := ⟨_, rfl⟩
  have hb : Below w.heap.size w W0 := by rw [hW0]; exact below_new w _
  have G : Hid (W0.heap[w.heap.size]? = some (.cells #[.int .i64 N, .int .u32 pr, .int .i64 pw, cv, .int .u32 (sp : Int), .int .i64 wt, .int .u32 er, .int .i64 la, .bool sa, av, .int .i64 lb, .bool sb, bv, .int .i64 num, .int .i64 kk, .int .i64 level, .bool special, lw] 31)) := by rw [hW0]; exact heap_alloc_new w _
  have RP := hR (Lib.hid h1) hb
  have RA := hRow (Lib.hid h2) hb
  have RB := hRow (Lib.hid h3) hb
  have RL := hR (Lib.hid h4) hb
  have B := Lib.hid hb
  have hlg := large_any ⟨N, pr, pw, wt, er, la, lb, num, kk, level, cv, av, bv, lw, sa, sb, special, chain, sp, xs, ys, ls⟩ W0 ⟨RP.out, RA.out, RB.out, RL.out⟩
  obtain ⟨lg, hlgd⟩ : ∃ b, b = largeB ⟨N, pr, pw, wt, er, la, lb, num, kk, level, cv, av, bv, lw, sa, sb, special, chain, sp, xs, ys, ls⟩ := ⟨_, rfl⟩
  rw [← hlgd] at hlg
  simp only [RCase.cells] at hlg ⊢
  have HLG := Lib.hid hlg
  have LG := Lib.hid hlgd
  have HW0 := Lib.hid hW0
  obtain ⟨p0, p1, p2, p3, p4, p5, p6, p7, p8, p9, p10, p11, p12, p13, p14, p15, p16, p17⟩ := case_cells G.out
  obtain ⟨n, hn⟩ : ∃ n, n = N.toNat := ⟨_, rfl⟩
  have NN := Lib.hid hn
  obtain ⟨oA, hoA⟩ := em_bool (NormOk N chain sp la sa xs)
  have HOA := Lib.hid hoA
  obtain ⟨oB, hoB⟩ := em_bool (NormOk N chain sp lb sb ys)
  have HOB := Lib.hid hoB
  obtain ⟨FA, hFA⟩ : ∃ F, F = wC (modl chain sp la.toNat sa) xs := ⟨_, rfl⟩
  have HFA := Lib.hid hFA
  obtain ⟨FB, hFB⟩ : ∃ F, F = wC (modl chain sp lb.toNat sb) ys := ⟨_, rfl⟩
  have HFB := Lib.hid hFB
  obtain ⟨o3, O3⟩ : ∃ o, Hid (o = twoB N chain sp la lb sa sb xs ys) := ⟨_, Lib.hid rfl⟩
  have KW : Hid (-9223372036854775808 ≤ kk ∧ kk ≤ 9223372036854775807) := hkk
  clear hkk hn hoA hoB hFA hFB
  clear hpost hb h h1 h2 h3 h4 hlg hlgd hW0
  go_enter Try.func9, Try.ntmps9
  go_upto_region 1 with (fail)
  rw [← HW0.out]
  obtain ⟨pc, hpc⟩ : ∃ z, z = w.heap.size := ⟨_, rfl⟩
  rw [← hpc] at G p0 p1 p2 p3 p4 p5 p6 p7 p8 p9 p10 p11 p12 p13 p14 p15 p16 p17 ⊢
  clear hpc HW0
  go_wp2_with fail
  (with_reducible refine HLG.out.mono ?_)
  rintro e v0 ⟨rfl, hb⟩
  replace B := hB B hb
  replace G := hG G hb
  replace RP := hR RP hb
  replace RA := hRow RA hb
  replace RB := hRow RB hb
  replace RL := hR RL hb
  clear hb HLG p0 p1 p2 p3 p4 p5 p6 p7 p8 p9 p10 p11 p12 p13 p14 p15 p16 p17
  cases lg with
  | true =>
    go_wp2_with fail
    (with_reducible refine (HAW.out _).mono ?_)
    rintro e wz ⟨rfl, hb⟩
    go_wp2
    rw [HP.out]
    exact ⟨rfl, below_via B.out hb⟩
  | false =>
  obtain ⟨p0, p1, p2, p3, p4, p5, p6, p7, p8, p9, p10, p11, p12, p13, p14, p15, p16, p17⟩ := case_cells G.out
  go_wp2_with fail
  (with_reducible refine (norm_e RP.out RA.out oA HOA.out n NN.out FA HFA.out).mono ?_)
  rintro e v1 ⟨s1, er1, rfl, hk, hk2, hb⟩
  have K1 := Lib.hid hk
  have J1 := Lib.hid hk2
  clear hk hk2
  replace B := hB B hb
  replace G := hG G hb
  replace RP := hR RP hb
  replace RA := hRow RA hb
  replace RB := hRow RB hb
  clear p0 p1 p2 p3 p4 p5 p6 p7 p8 p9 p10 p11 p12 p13 p14 p15 p16 p17
  clear hb
  go_upto_region 4 with (fail)
  have N1 := Lib.hid (heap_alloc_new v1 (.cells #[.bool false, .string s1] 42))
  have hb := below_new v1 (.cells #[.bool false, .string s1] 42)
  obtain ⟨b1, hbd⟩ : ∃ z, z = v1.heap.size := ⟨_, rfl⟩
  rw [← hbd] at N1 ⊢
  generalize v1.alloc (.cells #[.bool false, .string s1] 42) = v2 at hb N1 ⊢
  replace B := hB B hb
  replace G := hG G hb
  replace RP := hR RP hb
  replace RA := hRow RA hb
  replace RB := hRow RB hb
  clear hb hbd
  obtain ⟨p0, p1, p2, p3, p4, p5, p6, p7, p8, p9, p10, p11, p12, p13, p14, p15, p16, p17⟩ := case_cells G.out
  go_wp2_with fail
  (with_reducible refine (norm_e RP.out RB.out oB HOB.out n NN.out FB HFB.out).mono ?_)
  rintro e v3 ⟨s2, er2, rfl, hk, hk2, hb⟩
  have K2 := Lib.hid hk
  have J2 := Lib.hid hk2
  clear hk hk2
  replace B := hB B hb
  replace G := hG G hb
  replace RP := hR RP hb
  replace RA := hRow RA hb
  replace RB := hRow RB hb
  replace N1 := hG N1 hb
  clear p0 p1 p2 p3 p4 p5 p6 p7 p8 p9 p10 p11 p12 p13 p14 p15 p16 p17
  clear hb
  go_upto_region 5 with (fail)
  have N2 := Lib.hid (heap_alloc_new v3 (.cells #[.bool false, .string s2] 42))
  have hb := below_new v3 (.cells #[.bool false, .string s2] 42)
  obtain ⟨b2, hbd⟩ : ∃ z, z = v3.heap.size := ⟨_, rfl⟩
  rw [← hbd] at N2 ⊢
  generalize v3.alloc (.cells #[.bool false, .string s2] 42) = v4 at hb N2 ⊢
  replace B := hB B hb
  replace G := hG G hb
  replace RP := hR RP hb
  replace RA := hRow RA hb
  replace RB := hRow RB hb
  replace N1 := hG N1 hb
  clear hb hbd
  obtain ⟨p0, p1, p2, p3, p4, p5, p6, p7, p8, p9, p10, p11, p12, p13, p14, p15, p16, p17⟩ := case_cells G.out
  go_wp2_with fail
  (with_reducible refine (wides_e RP.out RA.out oA HOA.out n NN.out FA HFA.out).mono ?_)
  rintro e v5 ⟨aw, kw, cw, erw, rfl, hk, hk2, hb⟩
  have K3 := Lib.hid hk
  clear hk hk2
  replace B := hB B hb
  replace G := hG G hb
  replace RP := hR RP hb
  replace RA := hRow RA hb
  replace RB := hRow RB hb
  replace N1 := hG N1 hb
  replace N2 := hG N2 hb
  clear p0 p1 p2 p3 p4 p5 p6 p7 p8 p9 p10 p11 p12 p13 p14 p15 p16 p17
  clear hb
  obtain ⟨p0, p1, p2, p3, p4, p5, p6, p7, p8, p9, p10, p11, p12, p13, p14, p15, p16, p17⟩ := case_cells G.out
  go_wp2_with fail
  (with_reducible refine (add_e RP.out RA.out RB.out _ rfl _ rfl o3 O3.out).mono ?_)
  rintro e v6 ⟨la4, sa4, ra4, nn4, rc4, rs4, er4, rfl, hrow, hk, hk2, hb⟩
  have K4 := Lib.hid hk
  have J4 := Lib.hid hk2
  clear hk hk2
  replace B := hB B hb
  replace G := hG G hb
  replace RP := hR RP hb
  replace RA := hRow RA hb
  replace RB := hRow RB hb
  replace N1 := hG N1 hb
  replace N2 := hG N2 hb
  replace K3 := WidesK.below K3 hb
  clear p0 p1 p2 p3 p4 p5 p6 p7 p8 p9 p10 p11 p12 p13 p14 p15 p16 p17
  clear hb
  go_upto_region 7 with (fail)
  have E4 := ElAt.new (la := la4) (sa := sa4) hrow
  have hb := below_new v6 (.cells #[.int .i64 la4, .bool sa4, .slice ra4 nn4 rc4] 28)
  obtain ⟨b4, hbd⟩ : ∃ z, z = v6.heap.size := ⟨_, rfl⟩
  rw [← hbd] at E4 ⊢
  generalize v6.alloc (.cells #[.int .i64 la4, .bool sa4, .slice ra4 nn4 rc4] 28) = v7 at hb E4 ⊢
  replace B := hB B hb
  replace G := hG G hb
  replace RP := hR RP hb
  replace RA := hRow RA hb
  replace RB := hRow RB hb
  replace N1 := hG N1 hb
  replace N2 := hG N2 hb
  replace K3 := WidesK.below K3 hb
  clear hrow hb hbd
  obtain ⟨p0, p1, p2, p3, p4, p5, p6, p7, p8, p9, p10, p11, p12, p13, p14, p15, p16, p17⟩ := case_cells G.out
  go_wp2_with fail
  (with_reducible refine (mul_e RP.out RA.out RB.out _ rfl _ rfl o3 O3.out).mono ?_)
  rintro e v8 ⟨la5, sa5, ra5, nn5, rc5, rs5, er5, rfl, hrow, hk, hk2, hb⟩
  have K5 := Lib.hid hk
  have J5 := Lib.hid hk2
  clear hk hk2
  replace B := hB B hb
  replace G := hG G hb
  replace RP := hR RP hb
  replace RA := hRow RA hb
  replace RB := hRow RB hb
  replace N1 := hG N1 hb
  replace N2 := hG N2 hb
  replace K3 := WidesK.below K3 hb
  replace E4 := ElAt.below E4 hb
  clear p0 p1 p2 p3 p4 p5 p6 p7 p8 p9 p10 p11 p12 p13 p14 p15 p16 p17
  clear hb
  go_upto_region 8 with (fail)
  have E5 := ElAt.new (la := la5) (sa := sa5) hrow
  have hb := below_new v8 (.cells #[.int .i64 la5, .bool sa5, .slice ra5 nn5 rc5] 28)
  obtain ⟨b5, hbd⟩ : ∃ z, z = v8.heap.size := ⟨_, rfl⟩
  rw [← hbd] at E5 ⊢
  generalize v8.alloc (.cells #[.int .i64 la5, .bool sa5, .slice ra5 nn5 rc5] 28) = v9 at hb E5 ⊢
  replace B := hB B hb
  replace G := hG G hb
  replace RP := hR RP hb
  replace RA := hRow RA hb
  replace RB := hRow RB hb
  replace N1 := hG N1 hb
  replace N2 := hG N2 hb
  replace K3 := WidesK.below K3 hb
  replace E4 := ElAt.below E4 hb
  clear hrow hb hbd
  cases oA with
  | false =>
    obtain rfl : 2 = er1 := by first | exact J1.out rfl | exact J1.out trivial
    go_wp2_with fail
    (with_reducible refine (HAW.out _).mono ?_)
    rintro e wz ⟨rfl, hb⟩
    go_wp2
    rw [HP.out]
    exact ⟨rfl, below_via B.out hb⟩
  | true =>
  obtain ⟨hs, rfl⟩ := (by first | exact K1.out rfl | exact K1.out trivial : zT ((maxN FA n : Nat) : Int) = s1 ∧ 0 = er1)
  have Z1 := Lib.hid hs
  clear K1 J1 hs
  cases oB with
  | false =>
    obtain rfl : 2 = er2 := by first | exact J2.out rfl | exact J2.out trivial
    go_wp2_with fail
    (with_reducible refine (HAW.out _).mono ?_)
    rintro e wz ⟨rfl, hb⟩
    go_wp2
    rw [HP.out]
    exact ⟨rfl, below_via B.out hb⟩
  | true =>
  obtain ⟨hs, rfl⟩ := (by first | exact K2.out rfl | exact K2.out trivial : zT ((maxN FB n : Nat) : Int) = s2 ∧ 0 = er2)
  have Z2 := Lib.hid hs
  clear K2 J2 hs
  obtain ⟨rfl, rfl, rfl, g, rfl, hg⟩ := (by first | exact K3.out rfl | exact K3.out trivial : 0 = erw ∧ n = kw ∧ n = cw ∧ ∃ g, some ⟨g, 0, none⟩ = aw ∧ v9.heap[g]? = some (.cells (wArr FA n) 42))
  have GW := Lib.hid hg
  clear hg K3
  cases o3 with
  | false =>
    obtain rfl : 2 = er4 := by first | exact (J4.out rfl).2.2.2 | exact (J4.out trivial).2.2.2
    go_wp2_with fail
    (with_reducible refine (HAW.out _).mono ?_)
    rintro e wz ⟨rfl, hb⟩
    go_wp2
    rw [HP.out]
    exact ⟨rfl, below_via B.out hb⟩
  | true =>
  obtain ⟨rfl, rfl, rfl, rfl⟩ := (by first | exact K4.out rfl | exact K4.out trivial : _ = la4 ∧ _ = sa4 ∧ _ = rs4 ∧ _ = er4)
  clear K4 J4
  obtain ⟨rfl, rfl, rfl, rfl⟩ := (by first | exact K5.out rfl | exact K5.out trivial : _ = la5 ∧ _ = sa5 ∧ _ = rs5 ∧ _ = er5)
  clear K5 J5
  as_aux_lemma =>
    have NA := Lib.hid ((by first | exact HOA.out.1 rfl | exact HOA.out.1 trivial) : NormOk N chain sp la sa xs)
    obtain ⟨FS, hFS⟩ : ∃ F, F = wC (modl chain sp la.toNat sa) (zipRows (sumRow 1 N.toNat) (modl chain sp la.toNat sa) xs ys (modl chain sp la.toNat sa).length) := ⟨_, rfl⟩
    obtain ⟨FM, hFM⟩ : ∃ F, F = wC (modl chain sp la.toNat sa) (zipRows (prodRow N.toNat) (modl chain sp la.toNat sa) xs ys (modl chain sp la.toNat sa).length) := ⟨_, rfl⟩
    obtain ⟨q1, q2, q3, q4, q5, q6, q7⟩ := norms_plain NA.out (by first | exact HOB.out.1 rfl | exact HOB.out.1 trivial) O3.out NN.out HFA.out HFB.out hFS hFM
    have HFS := Lib.hid hFS
    have HFM := Lib.hid hFM
    have Q1 := Lib.hid q1
    have Q2 := Lib.hid q2
    have Q3 := Lib.hid q3
    have Q4 := Lib.hid q4
    have Q5 := Lib.hid q5
    have Q6 := Lib.hid q6
    have Q7 := Lib.hid q7
    clear q1 q2 q3 q4 q5 q6 q7 hFS hFM
    obtain ⟨p0, p1, p2, p3, p4, p5, p6, p7, p8, p9, p10, p11, p12, p13, p14, p15, p16, p17⟩ := case_cells G.out
    obtain ⟨e40, e41, e42, -, -, -⟩ := elem_cells E4.out.heap
    go_wp2_with fail
    (with_reducible refine (norm_e RP.out E4.out.rows true ⟨fun _ => Q1.out, fun _ => rfl⟩ n NN.out FS HFS.out).mono ?_)
    rintro e v10 ⟨s6, er6, rfl, hk, hk2, hb⟩
    obtain ⟨hs, rfl⟩ := hk rfl
    have Z6 := Lib.hid hs
    clear hk hk2 hs
    replace B := hB B hb
    replace G := hG G hb
    replace RP := hR RP hb
    replace RA := hRow RA hb
    replace RB := hRow RB hb
    replace N1 := hG N1 hb
    replace N2 := hG N2 hb
    replace E4 := ElAt.below E4 hb
    replace E5 := ElAt.below E5 hb
    replace GW := hG GW hb
    clear p0 p1 p2 p3 p4 p5 p6 p7 p8 p9 p10 p11 p12 p13 p14 p15 p16 p17 e40 e41 e42
    clear hb
    go_upto_region 11 with (fail)
    have N6 := Lib.hid (heap_alloc_new v10 (.cells #[.bool false, .string s6] 42))
    have hb := below_new v10 (.cells #[.bool false, .string s6] 42)
    obtain ⟨b6, hbd⟩ : ∃ z, z = v10.heap.size := ⟨_, rfl⟩
    rw [← hbd] at N6 ⊢
    generalize v10.alloc (.cells #[.bool false, .string s6] 42) = v11 at hb N6 ⊢
    replace B := hB B hb
    replace G := hG G hb
    replace RP := hR RP hb
    replace RA := hRow RA hb
    replace RB := hRow RB hb
    replace N1 := hG N1 hb
    replace N2 := hG N2 hb
    replace E4 := ElAt.below E4 hb
    replace E5 := ElAt.below E5 hb
    replace GW := hG GW hb
    clear hb hbd
    obtain ⟨p0, p1, p2, p3, p4, p5, p6, p7, p8, p9, p10, p11, p12, p13, p14, p15, p16, p17⟩ := case_cells G.out
    obtain ⟨e50, e51, e52, -, -, -⟩ := elem_cells E5.out.heap
    go_wp2_with fail
    (with_reducible refine (norm_e RP.out E5.out.rows true ⟨fun _ => Q2.out, fun _ => rfl⟩ n NN.out FM HFM.out).mono ?_)
    rintro e v12 ⟨s7, er7, rfl, hk, hk2, hb⟩
    obtain ⟨hs, rfl⟩ := hk rfl
    have Z7 := Lib.hid hs
    clear hk hk2 hs
    replace B := hB B hb
    replace G := hG G hb
    replace RP := hR RP hb
    replace RA := hRow RA hb
    replace RB := hRow RB hb
    replace N1 := hG N1 hb
    replace N2 := hG N2 hb
    replace E4 := ElAt.below E4 hb
    replace E5 := ElAt.below E5 hb
    replace GW := hG GW hb
    replace N6 := hG N6 hb
    clear p0 p1 p2 p3 p4 p5 p6 p7 p8 p9 p10 p11 p12 p13 p14 p15 p16 p17 e50 e51 e52
    clear hb
    go_upto_region 12 with (fail)
    have N7 := Lib.hid (heap_alloc_new v12 (.cells #[.bool false, .string s7] 42))
    have hb := below_new v12 (.cells #[.bool false, .string s7] 42)
    obtain ⟨b7, hbd⟩ : ∃ z, z = v12.heap.size := ⟨_, rfl⟩
    rw [← hbd] at N7 ⊢
    generalize v12.alloc (.cells #[.bool false, .string s7] 42) = v13 at hb N7 ⊢
    replace B := hB B hb
    replace G := hG G hb
    replace RP := hR RP hb
    replace RA := hRow RA hb
    replace RB := hRow RB hb
    replace N1 := hG N1 hb
    replace N2 := hG N2 hb
    replace E4 := ElAt.below E4 hb
    replace E5 := ElAt.below E5 hb
    replace GW := hG GW hb
    replace N6 := hG N6 hb
    clear hb hbd
    clear E4 E5
    obtain ⟨s8, hs8⟩ : ∃ z, z = zT ((maxN FA n + maxN FB n : Nat) : Int) := ⟨_, rfl⟩
    have HADD := Lib.hid (add_n Q4.out.a Q4.out.b Q4.out.add)
    rw [Z1.out, Z2.out, ← hs8] at HADD
    obtain ⟨sS, hsS⟩ : ∃ z, z = zT ((absN FA n : Nat) : Int) := ⟨_, rfl⟩
    obtain ⟨s9, hs9⟩ : ∃ z, z = zT ((absN FA n * maxN FB n : Nat) : Int) := ⟨_, rfl⟩
    have HMUL := Lib.hid (mul_n (Q4.out.s n (Nat.le_refl _)) Q4.out.b Q4.out.mul)
    rw [Z2.out, ← hsS, ← hs9] at HMUL
    have HSUM := Lib.hid (sumOf_any g n FA (by have := Q3.out; omega) Q4.out.f Q4.out.s)
    rw [← hsS] at HSUM
    have HAM := Lib.hid (atMost_any (maxN FS n) (maxN FA n + maxN FB n) Q5.out.a Q4.out.add Q6.out)
    rw [Z6.out, ← hs8] at HAM
    have HAM2 := Lib.hid (atMost_any (maxN FM n) (absN FA n * maxN FB n) Q5.out.b Q4.out.mul Q7.out)
    rw [Z7.out, ← hs9] at HAM2
    clear hs8 hsS hs9
    obtain ⟨n10, n11, -⟩ := wide_cells N1.out
    obtain ⟨n20, n21, -⟩ := wide_cells N2.out
    go_wp2_with fail
    (with_reducible refine (HADD.out _).mono ?_)
    rintro e v14 ⟨rfl, hb⟩
    replace B := hB B hb
    replace G := hG G hb
    replace RP := hR RP hb
    replace RA := hRow RA hb
    replace RB := hRow RB hb
    replace N1 := hG N1 hb
    replace N2 := hG N2 hb
    replace GW := hG GW hb
    replace N6 := hG N6 hb
    replace N7 := hG N7 hb
    clear n10 n11 n20 n21
    clear hb HADD
    go_upto_region 13 with (fail)
    have N8 := Lib.hid (heap_alloc_new v14 (.cells #[.bool false, .string s8] 42))
    have hb := below_new v14 (.cells #[.bool false, .string s8] 42)
    obtain ⟨b8, hbd⟩ : ∃ z, z = v14.heap.size := ⟨_, rfl⟩
    rw [← hbd] at N8 ⊢
    generalize v14.alloc (.cells #[.bool false, .string s8] 42) = v15 at hb N8 ⊢
    replace B := hB B hb
    replace G := hG G hb
    replace RP := hR RP hb
    replace RA := hRow RA hb
    replace RB := hRow RB hb
    replace N1 := hG N1 hb
    replace N2 := hG N2 hb
    replace GW := hG GW hb
    replace N6 := hG N6 hb
    replace N7 := hG N7 hb
    clear hb hbd
    as_aux_lemma =>
      have hS0 : ∀ W, Below v15.heap.size v15 W → W.cell? ⟨b2, 0, none⟩ = some (.bool false) ∧ W.cell? ⟨b2, 1, none⟩ = some (.string s2) := fun W hb => by
        obtain ⟨y0, y1, -⟩ := wide_cells (hG N2 hb).out
        exact ⟨y0, y1⟩
      refine wp_region_AE 8 6 v15.heap.size (fun W => W.cell? ⟨b2, 0, none⟩ = some (.bool false) ∧ W.cell? ⟨b2, 1, none⟩ = some (.string s2)) (fun W => Below v15.heap.size v15 W) (fun j => decide (8 ≤ j)) (by kernel_rfl) rfl (by kernel_rfl) (fun _ _ _ _ h => h) (by kernel_rfl) (fact_below (Nat.le_refl _) hS0) ((Below.refl _ _).drew) (fun hF => ?_)
      refine wpAnyA_alloc 7 (.cells #[.bool false, .string ⟨#[]⟩] 42) (by kernel_rfl) rfl rfl (by kernel_rfl) (by kernel_rfl) (fun _ => rfl) (fun _ _ => rfl) (fun _ _ _ _ h => h) hF ?_
      try simp only [Act.put, List.setIfInBounds_toArray, List.set_cons_zero, List.set_cons_succ]
      refine wpAnyA_take 0 (v := ?_) (by kernel_rfl) rfl rfl (by kernel_rfl) (by kernel_rfl) (fun _ _ _ h => h) (Or.inl ⟨by rfl, ?_⟩) (by assumption) ?_
      rotate_left
      · (intro wq hSq; (try dsimp only at hSq); go_simp; try with_reducible rfl)
      try simp only [Act.put, List.setIfInBounds_toArray, List.set_cons_zero, List.set_cons_succ]
      refine wpAnyA_take 2 (v := ?_) (by kernel_rfl) rfl rfl (by kernel_rfl) (by kernel_rfl) (fun _ _ _ h => h) (Or.inl ⟨by rfl, ?_⟩) (by assumption) ?_
      rotate_left
      · (intro wq hSq; (try dsimp only at hSq); go_simp; try with_reducible rfl)
      try simp only [Act.put, List.setIfInBounds_toArray, List.set_cons_zero, List.set_cons_succ]
      refine wpAnyA_step 1 (by kernel_rfl) rfl rfl (fun wq (hFq : Below v15.heap.size v15 wq) K hK => ?_)
      go_simp
      (with_reducible refine (HSUM.out wq (hG GW hFq).out).mono ?_)
      rintro e vA ⟨rfl, hb⟩
      have hdA : Below v15.heap.size v15 vA := below_via hFq hb
      have hFA' : Fact v15.heap.size (fun W => W.cell? ⟨b2, 0, none⟩ = some (.bool false) ∧ W.cell? ⟨b2, 1, none⟩ = some (.string s2)) (fun W => Below vA.heap.size vA W) := fact_below hdA.size (fun W hb => hS0 W (below_via hdA hb))
      refine hK.out _ _ hb (fun W => Below vA.heap.size vA W) hFA' (Below.refl _ _) ?_
      clear hK K hFq hb hF
      try simp only [Act.put, List.setIfInBounds_toArray, List.set_cons_zero, List.set_cons_succ]
      refine wpAnyA_step 3 (by kernel_rfl) rfl rfl (fun wq (hFq : Below vA.heap.size vA wq) K hK => ?_)
      go_simp
      (with_reducible refine (HMUL.out wq).mono ?_)
      rintro e vB ⟨rfl, hb⟩
      have hdB : Below v15.heap.size v15 vB := below_via (below_via hdA hFq) hb
      have hFB' : Fact v15.heap.size (fun W => W.cell? ⟨b2, 0, none⟩ = some (.bool false) ∧ W.cell? ⟨b2, 1, none⟩ = some (.string s2)) (fun W => Below vB.heap.size vB W) := fact_below hdB.size (fun W hb => hS0 W (below_via hdB hb))
      refine hK.out _ _ hb (fun W => Below vB.heap.size vB W) hFB' (Below.refl _ _) ?_
      clear hK K hFq hb hFA' hdA
      try simp only [Act.put, List.setIfInBounds_toArray, List.set_cons_zero, List.set_cons_succ]
      have hF := hFB'
      refine wpAnyA_take 4 (v := ?_) (by kernel_rfl) rfl rfl (by kernel_rfl) (by kernel_rfl) (fun _ _ _ h => h) (Or.inl ⟨by rfl, ?_⟩) (by assumption) ?_
      rotate_left
      · (intro wq hSq; (try dsimp only at hSq); go_simp; try with_reducible rfl)
      try simp only [Act.put, List.setIfInBounds_toArray, List.set_cons_zero, List.set_cons_succ]
      refine wpAnyA_take 5 (v := ?_) (by kernel_rfl) rfl rfl (by kernel_rfl) (by kernel_rfl) (fun _ _ _ h => h) (Or.inl ⟨by rfl, ?_⟩) (by assumption) ?_
      rotate_left
      · (intro wq hSq; (try dsimp only at hSq); go_simp; try with_reducible rfl)
      try simp only [Act.put, List.setIfInBounds_toArray, List.set_cons_zero, List.set_cons_succ]
      refine wpAnyA_take 6 (v := ?_) (by kernel_rfl) rfl rfl (by kernel_rfl) (by kernel_rfl) (fun _ _ _ h => h) (Or.inl ⟨by rfl, ?_⟩) (by assumption) ?_
      rotate_left
      · (intro wq hSq; (try dsimp only at hSq); go_simp; try with_reducible rfl)
      try simp only [Act.put, List.setIfInBounds_toArray, List.set_cons_zero, List.set_cons_succ]
      refine wpAnyA_end (by kernel_rfl) (fun x0 (hFx : Below vB.heap.size vB x0) => ?_)
      intro q hq hq7
      have hd0 : Below v15.heap.size v15 x0 := below_via hdB hFx
      clear hF hFB' hS0 hdB hFx
      obtain ⟨e0, e1, f0⟩ := wide_cells hq7
      refine wpAny_of_D (S := fun _ => True) (late := fun _ => true) _ _ _ _ ?_
      refine wpAnyD_step 8 (by kernel_rfl) rfl rfl (fun K hK => ?_)
      simp only [moreAfter]
      go_simp
      refine hK.out _ _ ?_
      clear hK K e0 e1 f0
      try simp only [Act.put, List.setIfInBounds_toArray, List.set_cons_zero, List.set_cons_succ]
      have hb : Below v15.heap.size v15 ((x0.setCell ⟨q, 0, none⟩ (.bool false)).setCell ⟨q, 1, none⟩ (.string s9)) := below_set2 hd0 hq false s9
      have N9 := Lib.hid (wide_set hq7 false s9)
      clear hq7 hd0 hq
      generalize ((x0.setCell ⟨q, 0, none⟩ (.bool false)).setCell ⟨q, 1, none⟩ (.string s9)) = vC at hb N9 ⊢
      refine wpAnyD_step 9 (by kernel_rfl) rfl rfl (fun K hK => ?_)
      go_simp
      refine hK.out _ _ ?_
      clear hK K
      try simp only [Act.put, List.setIfInBounds_toArray, List.set_cons_zero, List.set_cons_succ]
      refine wpAnyD_end (by kernel_rfl) ?_
      replace B := hB B hb
      replace G := hG G hb
      replace RP := hR RP hb
      replace RA := hRow RA hb
      replace RB := hRow RB hb
      replace N1 := hG N1 hb
      replace N2 := hG N2 hb
      replace GW := hG GW hb
      replace N6 := hG N6 hb
      replace N7 := hG N7 hb
      replace N8 := hG N8 hb
      clear hb HSUM HMUL
      clear GW
      obtain ⟨n60, n61, -⟩ := wide_cells N6.out
      obtain ⟨n80, n81, -⟩ := wide_cells N8.out
      obtain ⟨n70, n71, -⟩ := wide_cells N7.out
      obtain ⟨n90, n91, -⟩ := wide_cells N9.out
      go_wp2_with fail
      (with_reducible refine (HAM.out _).mono ?_)
      rintro e v16 ⟨rfl, hb⟩
      replace B := hB B hb
      replace G := hG G hb
      replace RP := hR RP hb
      replace RA := hRow RA hb
      replace RB := hRow RB hb
      replace N1 := hG N1 hb
      replace N2 := hG N2 hb
      replace N6 := hG N6 hb
      replace N7 := hG N7 hb
      replace N8 := hG N8 hb
      replace N9 := hG N9 hb
      clear n60 n61 n80 n81 n70 n71 n90 n91
      clear hb HAM
      obtain ⟨n60, n61, -⟩ := wide_cells N6.out
      obtain ⟨n80, n81, -⟩ := wide_cells N8.out
      obtain ⟨n70, n71, -⟩ := wide_cells N7.out
      obtain ⟨n90, n91, -⟩ := wide_cells N9.out
      go_wp2_with fail
      (with_reducible refine (HAM2.out _).mono ?_)
      rintro e v17 ⟨rfl, hb⟩
      replace B := hB B hb
      replace G := hG G hb
      replace RP := hR RP hb
      replace RA := hRow RA hb
      replace RB := hRow RB hb
      replace N1 := hG N1 hb
      replace N2 := hG N2 hb
      replace N6 := hG N6 hb
      replace N7 := hG N7 hb
      replace N8 := hG N8 hb
      replace N9 := hG N9 hb
      clear n60 n61 n80 n81 n70 n71 n90 n91
      clear hb HAM2
      as_aux_lemma =>
        clear N2 N6 N7 N8 N9 RB
        obtain ⟨o6, O6⟩ : ∃ o, Hid (o = (checkB N chain sp la sa xs && autB N kk)) := ⟨_, Lib.hid rfl⟩
        obtain ⟨p0, p1, p2, p3, p4, p5, p6, p7, p8, p9, p10, p11, p12, p13, p14, p15, p16, p17⟩ := case_cells G.out
        go_wp2_with fail
        (with_reducible refine (auto_e RP.out RA.out kk KW.out _ rfl _ rfl o6 O6.out).mono ?_)
        rintro e v18 ⟨laa, saa, raa, nna, rca, rsa, era, rfl, hrow, hk, hk2, hb⟩
        have Ka := Lib.hid hk
        have Ja := Lib.hid hk2
        clear hk hk2
        replace B := hB B hb
        replace G := hG G hb
        replace RP := hR RP hb
        replace RA := hRow RA hb
        replace N1 := hG N1 hb
        clear p0 p1 p2 p3 p4 p5 p6 p7 p8 p9 p10 p11 p12 p13 p14 p15 p16 p17
        clear hb
        go_upto_region 17 with (fail)
        have E6 := ElAt.new (la := laa) (sa := saa) hrow
        have hb := below_new v18 (.cells #[.int .i64 laa, .bool saa, .slice raa nna rca] 28)
        obtain ⟨ba, hbd⟩ : ∃ z, z = v18.heap.size := ⟨_, rfl⟩
        rw [← hbd] at E6 ⊢
        generalize v18.alloc (.cells #[.int .i64 laa, .bool saa, .slice raa nna rca] 28) = v19 at hb E6 ⊢
        replace B := hB B hb
        replace G := hG G hb
        replace RP := hR RP hb
        replace RA := hRow RA hb
        replace N1 := hG N1 hb
        clear hrow hb hbd
        cases o6 with
        | false =>
          obtain rfl : 2 = era := by first | exact (Ja.out rfl).2.2.2 | exact (Ja.out trivial).2.2.2
          go_wp2_with fail
          (with_reducible refine (HAW.out _).mono ?_)
          rintro e wz ⟨rfl, hb⟩
          go_wp2
          rw [HP.out]
          exact ⟨rfl, below_via B.out hb⟩
        | true =>
        obtain ⟨rfl, rfl, rfl, rfl⟩ := (by first | exact Ka.out rfl | exact Ka.out trivial : _ = laa ∧ _ = saa ∧ _ = rsa ∧ _ = era)
        clear Ka Ja
        obtain ⟨FX, hFX⟩ : ∃ F, F = wC (modl chain sp la.toNat sa) (zipRows (autR N.toNat kk.toNat) (modl chain sp la.toNat sa) xs xs (modl chain sp la.toNat sa).length) := ⟨_, rfl⟩
        obtain ⟨q1, q2⟩ := norma_plain NA.out O6.out NN.out HFA.out hFX
        have HFX := Lib.hid hFX
        have Q8 := Lib.hid q1
        have Q9 := Lib.hid q2
        clear q1 q2 hFX
        obtain ⟨p0, p1, p2, p3, p4, p5, p6, p7, p8, p9, p10, p11, p12, p13, p14, p15, p16, p17⟩ := case_cells G.out
        obtain ⟨e60, e61, e62, -, -, -⟩ := elem_cells E6.out.heap
        go_wp2_with fail
        (with_reducible refine (norm_e RP.out E6.out.rows true ⟨fun _ => Q8.out, fun _ => rfl⟩ n NN.out FX HFX.out).mono ?_)
        rintro e v20 ⟨st, erb, rfl, hk, hk2, hb⟩
        obtain ⟨hs, rfl⟩ := hk rfl
        have Zb := Lib.hid hs
        clear hk hk2 hs
        replace B := hB B hb
        replace G := hG G hb
        replace RP := hR RP hb
        replace RA := hRow RA hb
        replace N1 := hG N1 hb
        replace E6 := ElAt.below E6 hb
        clear p0 p1 p2 p3 p4 p5 p6 p7 p8 p9 p10 p11 p12 p13 p14 p15 p16 p17 e60 e61 e62
        clear hb
        go_upto_region 20 with (fail)
        have N10 := Lib.hid (heap_alloc_new v20 (.cells #[.bool false, .string st] 42))
        have hb := below_new v20 (.cells #[.bool false, .string st] 42)
        obtain ⟨bb, hbd⟩ : ∃ z, z = v20.heap.size := ⟨_, rfl⟩
        rw [← hbd] at N10 ⊢
        generalize v20.alloc (.cells #[.bool false, .string st] 42) = v21 at hb N10 ⊢
        replace B := hB B hb
        replace G := hG G hb
        replace RP := hR RP hb
        replace RA := hRow RA hb
        replace N1 := hG N1 hb
        replace E6 := ElAt.below E6 hb
        clear hb hbd
        have hst : s1 = st := by rw [← Z1.out, ← Zb.out, Q9.out]
        subst hst
        obtain ⟨n10, n11, -⟩ := wide_cells N1.out
        obtain ⟨n100, n101, -⟩ := wide_cells N10.out
        go_wp2_with fail
        (with_reducible refine (HAW.out _).mono ?_)
        rintro e wz ⟨rfl, hb⟩
        go_wp2
        rw [HP.out]
        exact ⟨rfl, below_via B.out hb⟩
end Go.Proofs.Ytkjlfjnncdkmlaa.G
