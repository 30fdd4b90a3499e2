/- Walks: the law RingKnown. -/
import Derived.Test.YtkjlfjnncdkmlaaPA6
namespace Go.Proofs.Ytkjlfjnncdkmlaa.G
set_option linter.all false
open Go.RowKit Go.Shelf Go.BigFrame Go.WideNum
attribute [local go_sem] Oper.semAt_some
set_option maxRecDepth 100000 in
set_option maxHeartbeats 16000000 in
theorem known_law (w : World) : Calls Try.prog 10 #[] w fun e w' => e = .returned (.bool true) ∧ Below w.heap.size w w' := by
  obtain ⟨HPOST, hpost⟩ : ∃ R : Ending → World → Prop, R = fun e w' => e = .returned (.bool true) ∧ Below w.heap.size w w' := ⟨_, rfl⟩
  rw [← hpost]
  have HP := Lib.hid hpost
  have HAW := Lib.hid awake_any
  obtain ⟨W0, hW0⟩ : ∃ W0, W0 = ((w.alloc (.cells #[.int .u32 17, .int .u32 97] 22)).alloc (.cells #[.int .i64 4, .int .u32 0, .int .i64 0, .slice (some ⟨w.heap.size, 0, none⟩) 2 2, .int .u32 41, .int .i64 0, .int .u32 0] 25)) := ⟨_, rfl⟩
  have b0 : W0.heap[w.heap.size]? = some (.cells #[.int .u32 17, .int .u32 97] 22) := by
    rw [hW0]; repeat (first | exact alloc_last _ _ (by simp) | rw [Below.heap_alloc _ _ _ (by (first | (simp; done) | (simp; omega)))])
  have b1 : W0.heap[w.heap.size + 1]? = some (.cells #[.int .i64 4, .int .u32 0, .int .i64 0, .slice (some ⟨w.heap.size, 0, none⟩) 2 2, .int .u32 41, .int .i64 0, .int .u32 0] 25) := by
    rw [hW0]; repeat (first | exact alloc_last _ _ (by simp) | rw [Below.heap_alloc _ _ _ (by (first | (simp; done) | (simp; omega)))])
  have hz0 := lt_of_heap b1
  have hB0 : Below w.heap.size w W0 := by
    rw [hW0]; repeat (with_reducible first | refine Below.alloc ?_ (by first | omega | (simp; done) | (simp; omega)) _ | exact Below.refl _ _)
  have hr0 : W0.reads W0.heap.size (.slice (some ⟨w.heap.size, 0, none⟩) 2 2) ([17, 97].map u32V) := reads_block (l := [17, 97].map u32V) b0 (by omega) 2 (by simp) (by unfold maxLen; omega)
  have B := Lib.hid hB0
  have GP := Lib.hid b1
  have RP := Lib.hid hr0
  have HW0 := Lib.hid hW0
  clear hpost hW0 b0 b1 hr0 hB0 hz0
  go_enter Try.func10, Try.ntmps10
  go_upto_region 2 with (fail)
  rw [← HW0.out]
  clear HW0
  obtain ⟨p0, p1, p2, p3, p4, p5, p6⟩ := par_cells GP.out
  obtain ⟨X, hX⟩ : ∃ X, X = W0.alloc (.cells #[.int .i64 0, .int .i64 1, .int .i64 0, .int .i64 0] 2) := ⟨_, rfl⟩
  have hb : Below W0.heap.size W0 X := by rw [hX]; exact below_new _ _
  have hl : X.reads X.heap.size (.slice (some ⟨W0.heap.size, 0, none⟩) 4 4) ([0, 1, 0, 0].map i64V) := by
    have hg : X.heap[W0.heap.size]? = some (.cells #[.int .i64 0, .int .i64 1, .int .i64 0, .int .i64 0] 2) := by rw [hX]; exact heap_alloc_new _ _
    exact reads_block (l := [0, 1, 0, 0].map i64V) hg (lt_of_heap hg) 4 (by simp) (by unfold maxLen; omega)
  replace B := hB B hb
  replace GP := hG GP hb
  replace RP := hR RP hb
  have HL := Lib.hid hl
  have HX := Lib.hid hX
  clear hb hl hX
  go_wp2_with fail
  rw [← HX.out]
  (with_reducible refine (kints RP.out 1 _ [0, 1, 0, 0] HL.out _ kn_ints.1 kn_rows.1).mono ?_)
  rintro e v1 ⟨la1, sa1, ra1, nn1, rc1, rs1, er1, rfl, hrow, hk, hk2, hb⟩
  obtain ⟨rfl, rfl, rfl, rfl⟩ := hk rfl
  clear hk hk2 HL HX
  replace B := hB B hb
  replace GP := hG GP hb
  replace RP := hR RP hb
  clear p0 p1 p2 p3 p4 p5 p6
  clear hb
  go_upto_region 3 with (fail)
  have E1 := ElAt.new (la := 1) (sa := false) hrow
  have hb := below_new v1 (.cells #[.int .i64 1, .bool false, .slice ra1 nn1 rc1] 28)
  obtain ⟨b1, hbd⟩ : ∃ z, z = v1.heap.size := ⟨_, rfl⟩
  rw [← hbd] at E1 ⊢
  generalize v1.alloc (.cells #[.int .i64 1, .bool false, .slice ra1 nn1 rc1] 28) = v2 at hb E1 ⊢
  replace B := hB B hb
  replace GP := hG GP hb
  replace RP := hR RP hb
  clear hrow hb hbd
  obtain ⟨p0, p1, p2, p3, p4, p5, p6⟩ := par_cells GP.out
  obtain ⟨X, hX⟩ : ∃ X, X = v2.alloc (.cells #[.int .i64 0, .int .i64 0, .int .i64 0, .int .i64 1] 2) := ⟨_, rfl⟩
  have hb : Below v2.heap.size v2 X := by rw [hX]; exact below_new _ _
  have hl : X.reads X.heap.size (.slice (some ⟨v2.heap.size, 0, none⟩) 4 4) ([0, 0, 0, 1].map i64V) := by
    have hg : X.heap[v2.heap.size]? = some (.cells #[.int .i64 0, .int .i64 0, .int .i64 0, .int .i64 1] 2) := by rw [hX]; exact heap_alloc_new _ _
    exact reads_block (l := [0, 0, 0, 1].map i64V) hg (lt_of_heap hg) 4 (by simp) (by unfold maxLen; omega)
  replace B := hB B hb
  replace GP := hG GP hb
  replace RP := hR RP hb
  replace E1 := ElAt.below E1 hb
  have HL := Lib.hid hl
  have HX := Lib.hid hX
  clear hb hl hX
  go_wp2_with fail
  rw [← HX.out]
  (with_reducible refine (kints RP.out 1 _ [0, 0, 0, 1] HL.out _ kn_ints.2.1 kn_rows.2.1).mono ?_)
  rintro e v3 ⟨la2, sa2, ra2, nn2, rc2, rs2, er2, rfl, hrow, hk, hk2, hb⟩
  obtain ⟨rfl, rfl, rfl, rfl⟩ := hk rfl
  clear hk hk2 HL HX
  replace B := hB B hb
  replace GP := hG GP hb
  replace RP := hR RP hb
  replace E1 := ElAt.below E1 hb
  clear p0 p1 p2 p3 p4 p5 p6
  clear hb
  go_upto_region 4 with (fail)
  have E2 := ElAt.new (la := 1) (sa := false) hrow
  have hb := below_new v3 (.cells #[.int .i64 1, .bool false, .slice ra2 nn2 rc2] 28)
  obtain ⟨b2, hbd⟩ : ∃ z, z = v3.heap.size := ⟨_, rfl⟩
  rw [← hbd] at E2 ⊢
  generalize v3.alloc (.cells #[.int .i64 1, .bool false, .slice ra2 nn2 rc2] 28) = v4 at hb E2 ⊢
  replace B := hB B hb
  replace GP := hG GP hb
  replace RP := hR RP hb
  replace E1 := ElAt.below E1 hb
  clear hrow hb hbd
  obtain ⟨p0, p1, p2, p3, p4, p5, p6⟩ := par_cells GP.out
  obtain ⟨e10, e11, e12, -, -, -⟩ := elem_cells E1.out.heap
  obtain ⟨e20, e21, e22, -, -, -⟩ := elem_cells E2.out.heap
  go_wp2_with fail
  (with_reducible refine (kmul RP.out E1.out.rows E2.out.rows kn_mul.1 kn_mul.2).mono ?_)
  rintro e v5 ⟨la3, sa3, ra3, nn3, rc3, rs3, er3, rfl, hrow, hk, hk2, hb⟩
  obtain ⟨rfl, rfl, rfl, rfl⟩ := hk rfl
  clear hk hk2
  replace B := hB B hb
  replace GP := hG GP hb
  replace RP := hR RP hb
  replace E1 := ElAt.below E1 hb
  replace E2 := ElAt.below E2 hb
  clear p0 p1 p2 p3 p4 p5 p6 e10 e11 e12 e20 e21 e22
  clear hb
  go_upto_region 5 with (fail)
  have E3 := ElAt.new (la := 1) (sa := false) hrow
  have hb := below_new v5 (.cells #[.int .i64 1, .bool false, .slice ra3 nn3 rc3] 28)
  obtain ⟨b3, hbd⟩ : ∃ z, z = v5.heap.size := ⟨_, rfl⟩
  rw [← hbd] at E3 ⊢
  generalize v5.alloc (.cells #[.int .i64 1, .bool false, .slice ra3 nn3 rc3] 28) = v6 at hb E3 ⊢
  replace B := hB B hb
  replace GP := hG GP hb
  replace RP := hR RP hb
  replace E1 := ElAt.below E1 hb
  replace E2 := ElAt.below E2 hb
  clear hrow hb hbd
  clear E1 E2
  obtain ⟨p0, p1, p2, p3, p4, p5, p6⟩ := par_cells GP.out
  obtain ⟨X, hX⟩ : ∃ X, X = v6.alloc (.cells #[.int .i64 0, .int .i64 1, .int .i64 2, .int .i64 3] 2) := ⟨_, rfl⟩
  have hb : Below v6.heap.size v6 X := by rw [hX]; exact below_new _ _
  have hl : X.reads X.heap.size (.slice (some ⟨v6.heap.size, 0, none⟩) 4 4) ([0, 1, 2, 3].map i64V) := by
    have hg : X.heap[v6.heap.size]? = some (.cells #[.int .i64 0, .int .i64 1, .int .i64 2, .int .i64 3] 2) := by rw [hX]; exact heap_alloc_new _ _
    exact reads_block (l := [0, 1, 2, 3].map i64V) hg (lt_of_heap hg) 4 (by simp) (by unfold maxLen; omega)
  replace B := hB B hb
  replace GP := hG GP hb
  replace RP := hR RP hb
  replace E3 := ElAt.below E3 hb
  have HL := Lib.hid hl
  have HX := Lib.hid hX
  clear hb hl hX
  go_wp2_with fail
  rw [← HX.out]
  (with_reducible refine (kints RP.out 1 _ [0, 1, 2, 3] HL.out _ kn_ints.2.2.1 kn_rows.2.2.1).mono ?_)
  rintro e v7 ⟨la4, sa4, ra4, nn4, rc4, rs4, er4, rfl, hrow, hk, hk2, hb⟩
  obtain ⟨rfl, rfl, rfl, rfl⟩ := hk rfl
  clear hk hk2 HL HX
  replace B := hB B hb
  replace GP := hG GP hb
  replace RP := hR RP hb
  replace E3 := ElAt.below E3 hb
  clear p0 p1 p2 p3 p4 p5 p6
  clear hb
  go_upto_region 6 with (fail)
  have E4 := ElAt.new (la := 1) (sa := false) hrow
  have hb := below_new v7 (.cells #[.int .i64 1, .bool false, .slice ra4 nn4 rc4] 28)
  obtain ⟨b4, hbd⟩ : ∃ z, z = v7.heap.size := ⟨_, rfl⟩
  rw [← hbd] at E4 ⊢
  generalize v7.alloc (.cells #[.int .i64 1, .bool false, .slice ra4 nn4 rc4] 28) = v8 at hb E4 ⊢
  replace B := hB B hb
  replace GP := hG GP hb
  replace RP := hR RP hb
  replace E3 := ElAt.below E3 hb
  clear hrow hb hbd
  obtain ⟨p0, p1, p2, p3, p4, p5, p6⟩ := par_cells GP.out
  obtain ⟨e40, e41, e42, -, -, -⟩ := elem_cells E4.out.heap
  go_wp2_with fail
  (with_reducible refine (kauto RP.out E4.out.rows kn_auto.1 kn_auto.2).mono ?_)
  rintro e v9 ⟨la5, sa5, ra5, nn5, rc5, rs5, er5, rfl, hrow, hk, hk2, hb⟩
  obtain ⟨rfl, rfl, rfl, rfl⟩ := hk rfl
  clear hk hk2
  replace B := hB B hb
  replace GP := hG GP hb
  replace RP := hR RP hb
  replace E3 := ElAt.below E3 hb
  replace E4 := ElAt.below E4 hb
  clear p0 p1 p2 p3 p4 p5 p6 e40 e41 e42
  clear hb
  go_upto_region 7 with (fail)
  have E5 := ElAt.new (la := 1) (sa := false) hrow
  have hb := below_new v9 (.cells #[.int .i64 1, .bool false, .slice ra5 nn5 rc5] 28)
  obtain ⟨b5, hbd⟩ : ∃ z, z = v9.heap.size := ⟨_, rfl⟩
  rw [← hbd] at E5 ⊢
  generalize v9.alloc (.cells #[.int .i64 1, .bool false, .slice ra5 nn5 rc5] 28) = v10 at hb E5 ⊢
  replace B := hB B hb
  replace GP := hG GP hb
  replace RP := hR RP hb
  replace E3 := ElAt.below E3 hb
  replace E4 := ElAt.below E4 hb
  clear hrow hb hbd
  clear E4
  obtain ⟨p0, p1, p2, p3, p4, p5, p6⟩ := par_cells GP.out
  obtain ⟨X, hX⟩ : ∃ X, X = v10.alloc (.cells #[.int .i64 1, .int .i64 (-1), .int .i64 20, .int .i64 0] 2) := ⟨_, rfl⟩
  have hb : Below v10.heap.size v10 X := by rw [hX]; exact below_new _ _
  have hl : X.reads X.heap.size (.slice (some ⟨v10.heap.size, 0, none⟩) 4 4) ([1, -1, 20, 0].map i64V) := by
    have hg : X.heap[v10.heap.size]? = some (.cells #[.int .i64 1, .int .i64 (-1), .int .i64 20, .int .i64 0] 2) := by rw [hX]; exact heap_alloc_new _ _
    exact reads_block (l := [1, -1, 20, 0].map i64V) hg (lt_of_heap hg) 4 (by simp) (by unfold maxLen; omega)
  replace B := hB B hb
  replace GP := hG GP hb
  replace RP := hR RP hb
  replace E3 := ElAt.below E3 hb
  replace E5 := ElAt.below E5 hb
  have HL := Lib.hid hl
  have HX := Lib.hid hX
  clear hb hl hX
  go_wp2_with fail
  rw [← HX.out]
  (with_reducible refine (kints RP.out 2 _ [1, -1, 20, 0] HL.out _ kn_ints.2.2.2 kn_rows.2.2.2).mono ?_)
  rintro e v11 ⟨la6, sa6, ra6, nn6, rc6, rs6, er6, rfl, hrow, hk, hk2, hb⟩
  obtain ⟨rfl, rfl, rfl, rfl⟩ := hk rfl
  clear hk hk2 HL HX
  replace B := hB B hb
  replace GP := hG GP hb
  replace RP := hR RP hb
  replace E3 := ElAt.below E3 hb
  replace E5 := ElAt.below E5 hb
  clear p0 p1 p2 p3 p4 p5 p6
  clear hb
  go_upto_region 8 with (fail)
  have E6 := ElAt.new (la := 2) (sa := false) hrow
  have hb := below_new v11 (.cells #[.int .i64 2, .bool false, .slice ra6 nn6 rc6] 28)
  obtain ⟨b6, hbd⟩ : ∃ z, z = v11.heap.size := ⟨_, rfl⟩
  rw [← hbd] at E6 ⊢
  generalize v11.alloc (.cells #[.int .i64 2, .bool false, .slice ra6 nn6 rc6] 28) = v12 at hb E6 ⊢
  replace B := hB B hb
  replace GP := hG GP hb
  replace RP := hR RP hb
  replace E3 := ElAt.below E3 hb
  replace E5 := ElAt.below E5 hb
  clear hrow hb hbd
  obtain ⟨p0, p1, p2, p3, p4, p5, p6⟩ := par_cells GP.out
  obtain ⟨e60, e61, e62, -, -, -⟩ := elem_cells E6.out.heap
  go_wp2_with fail
  (with_reducible refine (kres RP.out E6.out.rows false true kn_res.1 kn_res.2.1).mono ?_)
  rintro e v13 ⟨la7, sa7, ra7, nn7, rc7, rs7, er7, rfl, hrow, hk, hk2, hb⟩
  obtain ⟨rfl, rfl, rfl, rfl⟩ := hk rfl
  clear hk hk2
  replace B := hB B hb
  replace GP := hG GP hb
  replace RP := hR RP hb
  replace E3 := ElAt.below E3 hb
  replace E5 := ElAt.below E5 hb
  replace E6 := ElAt.below E6 hb
  clear p0 p1 p2 p3 p4 p5 p6 e60 e61 e62
  clear hb
  go_upto_region 9 with (fail)
  have E7 := ElAt.new (la := 1) (sa := false) hrow
  have hb := below_new v13 (.cells #[.int .i64 1, .bool false, .slice ra7 nn7 rc7] 28)
  obtain ⟨b7, hbd⟩ : ∃ z, z = v13.heap.size := ⟨_, rfl⟩
  rw [← hbd] at E7 ⊢
  generalize v13.alloc (.cells #[.int .i64 1, .bool false, .slice ra7 nn7 rc7] 28) = v14 at hb E7 ⊢
  replace B := hB B hb
  replace GP := hG GP hb
  replace RP := hR RP hb
  replace E3 := ElAt.below E3 hb
  replace E5 := ElAt.below E5 hb
  replace E6 := ElAt.below E6 hb
  clear hrow hb hbd
  obtain ⟨p0, p1, p2, p3, p4, p5, p6⟩ := par_cells GP.out
  obtain ⟨e60, e61, e62, -, -, -⟩ := elem_cells E6.out.heap
  go_wp2_with fail
  (with_reducible refine (kres RP.out E6.out.rows true false kn_res.2.2 rfl).mono ?_)
  rintro e v15 ⟨la8, sa8, ra8, nn8, rc8, rs8, er8, rfl, hrow, hk, hk2, hb⟩
  obtain ⟨rfl, rfl, rfl, rfl⟩ := hk2 rfl
  clear hk hk2
  replace B := hB B hb
  replace GP := hG GP hb
  replace RP := hR RP hb
  replace E3 := ElAt.below E3 hb
  replace E5 := ElAt.below E5 hb
  replace E6 := ElAt.below E6 hb
  replace E7 := ElAt.below E7 hb
  clear p0 p1 p2 p3 p4 p5 p6 e60 e61 e62
  clear hb
  go_upto_region 10 with (fail)
  have E8 := ElAt.new (la := 0) (sa := false) hrow
  have hb := below_new v15 (.cells #[.int .i64 0, .bool false, .slice ra8 nn8 rc8] 28)
  obtain ⟨b8, hbd⟩ : ∃ z, z = v15.heap.size := ⟨_, rfl⟩
  rw [← hbd] at E8 ⊢
  generalize v15.alloc (.cells #[.int .i64 0, .bool false, .slice ra8 nn8 rc8] 28) = v16 at hb E8 ⊢
  replace B := hB B hb
  replace GP := hG GP hb
  replace RP := hR RP hb
  replace E3 := ElAt.below E3 hb
  replace E5 := ElAt.below E5 hb
  replace E6 := ElAt.below E6 hb
  replace E7 := ElAt.below E7 hb
  clear hrow hb hbd
  clear E8
  obtain ⟨e30, e31, e32, -, -, -⟩ := elem_cells E3.out.heap
  obtain ⟨X, hX⟩ : ∃ X, X = (v16.alloc (.cells #[.int .u32 16, .int .u32 0, .int .u32 0, .int .u32 0] 22)).alloc (.cells #[.slice (some ⟨v16.heap.size, 0, none⟩) 4 4] 23) := ⟨_, rfl⟩
  have hb : Below v16.heap.size v16 X := by rw [hX]; exact (below_new _ _).alloc (by simp) _
  have hl : X.rows u32V X.heap.size (.slice (some ⟨v16.heap.size + 1, 0, none⟩) 1 1) [[16, 0, 0, 0]] := by rw [hX]; exact (built_one v16 [16, 0, 0, 0] 23 22 (by unfold maxLen; simp)).mono (by simp)
  replace B := hB B hb
  replace GP := hG GP hb
  replace RP := hR RP hb
  replace E3 := ElAt.below E3 hb
  replace E5 := ElAt.below E5 hb
  replace E6 := ElAt.below E6 hb
  replace E7 := ElAt.below E7 hb
  have HL := Lib.hid hl
  have HX := Lib.hid hX
  clear hb hl hX
  go_wp2_with fail
  rw [← HX.out]
  (with_reducible refine (lsame_any E3.out.rows HL.out true (by decide)).mono ?_)
  rintro e v17 ⟨rfl, hb⟩
  replace B := hB B hb
  replace GP := hG GP hb
  replace RP := hR RP hb
  replace E3 := ElAt.below E3 hb
  replace E5 := ElAt.below E5 hb
  replace E6 := ElAt.below E6 hb
  replace E7 := ElAt.below E7 hb
  clear e30 e31 e32
  clear hb HL HX
  clear E3
  obtain ⟨e50, e51, e52, -, -, -⟩ := elem_cells E5.out.heap
  obtain ⟨X, hX⟩ : ∃ X, X = (v17.alloc (.cells #[.int .u32 0, .int .u32 3, .int .u32 15, .int .u32 1] 22)).alloc (.cells #[.slice (some ⟨v17.heap.size, 0, none⟩) 4 4] 23) := ⟨_, rfl⟩
  have hb : Below v17.heap.size v17 X := by rw [hX]; exact (below_new _ _).alloc (by simp) _
  have hl : X.rows u32V X.heap.size (.slice (some ⟨v17.heap.size + 1, 0, none⟩) 1 1) [[0, 3, 15, 1]] := by rw [hX]; exact (built_one v17 [0, 3, 15, 1] 23 22 (by unfold maxLen; simp)).mono (by simp)
  replace B := hB B hb
  replace GP := hG GP hb
  replace RP := hR RP hb
  replace E5 := ElAt.below E5 hb
  replace E6 := ElAt.below E6 hb
  replace E7 := ElAt.below E7 hb
  have HL := Lib.hid hl
  have HX := Lib.hid hX
  clear hb hl hX
  go_wp2_with fail
  rw [← HX.out]
  (with_reducible refine (lsame_any E5.out.rows HL.out true (by decide)).mono ?_)
  rintro e v18 ⟨rfl, hb⟩
  replace B := hB B hb
  replace GP := hG GP hb
  replace RP := hR RP hb
  replace E5 := ElAt.below E5 hb
  replace E6 := ElAt.below E6 hb
  replace E7 := ElAt.below E7 hb
  clear e50 e51 e52
  clear hb HL HX
  clear E5
  obtain ⟨p0, p1, p2, p3, p4, p5, p6⟩ := par_cells GP.out
  obtain ⟨e60, e61, e62, -, -, -⟩ := elem_cells E6.out.heap
  go_wp2_with fail
  (with_reducible refine (kwides RP.out E6.out.rows).mono ?_)
  rintro e v19 ⟨g, rfl, hg, hb⟩
  replace B := hB B hb
  replace GP := hG GP hb
  replace RP := hR RP hb
  replace E6 := ElAt.below E6 hb
  replace E7 := ElAt.below E7 hb
  clear p0 p1 p2 p3 p4 p5 p6 e60 e61 e62
  have GW := Lib.hid hg
  clear hb hg
  clear E6 GP RP
  go_upto_region 13 with (fail)
  obtain ⟨nb, hnb⟩ : ∃ z, z = zN (-1) := ⟨_, rfl⟩
  obtain ⟨nt, hnt⟩ : ∃ z, z = zT (-1) := ⟨_, rfl⟩
  obtain ⟨mb, hmb⟩ : ∃ z, z = zN 20 := ⟨_, rfl⟩
  obtain ⟨mt, hmt⟩ : ∃ z, z = zT 20 := ⟨_, rfl⟩
  have HKK : Hid (∀ W, Below v19.heap.size v19 W → W.cell? ⟨b7, 0, none⟩ = some (.int .i64 1) ∧ W.cell? ⟨b7, 1, none⟩ = some (.bool false) ∧ W.cell? ⟨b7, 2, none⟩ = some (.slice ra7 nn7 rc7) ∧ W.cell? ⟨g, 2, none⟩ = some (.bool nb) ∧ W.cell? ⟨g, 3, none⟩ = some (.string nt) ∧ W.cell? ⟨g, 4, none⟩ = some (.bool mb) ∧ W.cell? ⟨g, 5, none⟩ = some (.string mt)) := fun W hb => by
    obtain ⟨k0, k1, k2, -, -, -⟩ := elem_cells (ElAt.below E7 hb).out.heap
    obtain ⟨g2, g3, g4, g5⟩ := kcells hnb hnt hmb hmt (hG GW hb).out
    exact ⟨k0, k1, k2, g2, g3, g4, g5⟩
  have HS1 : Hid (∀ W v, Below v19.heap.size v19 W → W.rows u32V W.heap.size v [[1, 16, 3, 0]] → Calls Try.prog 19 #[.agg #[.int .i64 1, .bool false, .slice ra7 nn7 rc7], .agg #[.int .i64 1, .bool false, v]] W fun e w' => e = .returned (.bool true) ∧ Below W.heap.size W w') := fun W v hb h => lsame_any (ElAt.below E7 hb).out.rows h true (by decide)
  have HO1 : Hid (∀ W, Calls Try.prog 16 #[.int .i64 (-1)] W fun e w' => e = .returned (.agg #[.bool nb, .string nt]) ∧ Below W.heap.size W w') := fun W => by
    rw [hnb, hnt]; exact refOf_z (-1) (by omega) (by omega) W
  have HO2 : Hid (∀ W, Calls Try.prog 16 #[.int .i64 20] W fun e w' => e = .returned (.agg #[.bool mb, .string mt]) ∧ Below W.heap.size W w') := fun W => by
    rw [hmb, hmt]; exact refOf_z 20 (by omega) (by omega) W
  obtain ⟨k0, k1, k2, g2, g3, g4, g5⟩ := HKK.out _ (Below.refl _ _)
  clear hnb hnt hmb hmt E7 GW
  go_region_held3 (fun w' => w'.cell? ⟨b7, 0, none⟩ = some (.int .i64 1) ∧ w'.cell? ⟨b7, 1, none⟩ = some (.bool false) ∧ w'.cell? ⟨b7, 2, none⟩ = some (.slice ra7 nn7 rc7) ∧ w'.cell? ⟨g, 2, none⟩ = some (.bool nb) ∧ w'.cell? ⟨g, 3, none⟩ = some (.string nt) ∧ w'.cell? ⟨g, 4, none⟩ = some (.bool mb) ∧ w'.cell? ⟨g, 5, none⟩ = some (.string mt))
    (first | exact ⟨k0, k1, k2, g2, g3, g4, g5⟩ | exact HKK.out _ (by repeat (with_reducible first | assumption | apply below_drewN | apply Below.drew | refine Below.alloc ?_ (by first | omega | (simp; done) | (simp; omega)) _ | refine Below.setCell ?_ (by first | omega | (simp; done) | (simp; omega)) _ | exact Below.refl _ _)))
    (first
      | (go_simp; go_at_call 19; (with_reducible refine (HS1.out _ _ (by repeat (with_reducible first | assumption | apply below_drewN | apply Below.drew | refine Below.alloc ?_ (by first | omega | (simp; done) | (simp; omega)) _ | refine Below.setCell ?_ (by first | omega | (simp; done) | (simp; omega)) _ | exact Below.refl _ _)) (by with_unfolding_all first | exact (built_one _ [1, 16, 3, 0] _ _ (by unfold maxLen; simp)).mono (by simp) | exact ((built_one _ [1, 16, 3, 0] _ _ (by unfold maxLen; simp)).below ((Below.refl _ _).drew)).mono (by simp))).mono ?_); rintro e x1 ⟨rfl, hb6⟩; have h6 : Below v19.heap.size v19 x1 := below_via (by repeat (with_reducible first | assumption | apply below_drewN | apply Below.drew | refine Below.alloc ?_ (by first | omega | (simp; done) | (simp; omega)) _ | refine Below.setCell ?_ (by first | omega | (simp; done) | (simp; omega)) _ | exact Below.refl _ _)) hb6; clear hb6)
      | (go_simp; go_at_call 16; (with_reducible refine (HO1.out _).mono ?_); rintro e x2 ⟨rfl, hb7⟩; have h7 : Below v19.heap.size v19 x2 := below_via h6 hb7; clear hb7 h6)
      | (go_simp; go_at_call 16; (with_reducible refine (HO2.out _).mono ?_); rintro e x3 ⟨rfl, hb8⟩; have h8 : Below v19.heap.size v19 x3 := below_via h7 hb8; clear hb8 h7)
      | (go_simp; go_at_call 12; (with_reducible refine (HAW.out _).mono ?_); rintro e x4 ⟨rfl, hb9⟩; have h9 : Below v19.heap.size v19 x4 := below_via h8 hb9; clear hb9 h8))
  all_goals
    go_wp2
    first
      | (rw [HP.out]; exact ⟨rfl, below_via B.out h9⟩)
      | (go_ret; exact ⟨rfl, below_via B.out h9⟩)
end Go.Proofs.Ytkjlfjnncdkmlaa.G
