/- Walks: the reference's sums and products of elements. -/
import Derived.Test.YtpcpgmgpkegjlaaGH4
import Derived.Test.YtpcpgmgpkegjlaaGH3b
namespace Go.Proofs.Ytpcpgmgpkegjlaa
open Go.RowKit Go.Shelf Go.BigFrame
set_option maxRecDepth 100000 in
set_option maxHeartbeats 40000000 in
theorem radd_any (N pr pw wt er : Int) (cv : Value) (chain : List Nat) (sp : Nat) (la lb : Int) (sa sb : Bool) (av bv : Value) (xs ys : List (List Nat)) (w : World) (hr : w.reads w.heap.size cv (chain.map u32V)) (ha : w.rows u32V w.heap.size av xs) (hb : w.rows u32V w.heap.size bv ys) :
    Calls Try.prog 27 #[.agg #[.int .i64 N, .int .u32 pr, .int .i64 pw, cv, .int .u32 (sp : Int), .int .i64 wt, .int .u32 er], .agg #[.int .i64 la, .bool sa, av], .agg #[.int .i64 lb, .bool sb, bv]] w (EltPost (twoB N chain sp la lb sa sb xs ys) la sa (zipRows (sumRow 1 N.toNat) (modl chain sp la.toNat sa) xs ys (modl chain sp la.toNat sa).length) w) := by
  obtain ⟨r, hrr⟩ : ∃ r, r = twoB N chain sp la lb sa sb xs ys := ⟨_, rfl⟩
  rw [← hrr]
  obtain ⟨mr, hmr⟩ : ∃ mr, mr = zipRows (sumRow 1 N.toNat) (modl chain sp la.toNat sa) xs ys (modl chain sp la.toNat sa).length := ⟨_, rfl⟩
  rw [← hmr]
  obtain ⟨a, cap, rfl, hcap, hmx, -⟩ := reads_u32 hr
  obtain ⟨aa, ac, rfl, hac, ham, has⟩ := ha.shape
  obtain ⟨ba, bc, rfl, hbc, hbm, hbs⟩ := hb.shape
  obtain ⟨W0, hW0⟩ : ∃ W0, W0 = (((w.alloc (.cells #[.int .i64 N, .int .u32 pr, .int .i64 pw, .slice a chain.length cap, .int .u32 (sp : Int), .int .i64 wt, .int .u32 er] 25)).alloc (.cells #[.int .i64 la, .bool sa, .slice aa xs.length ac] 28)).alloc (.cells #[.int .i64 lb, .bool sb, .slice ba ys.length bc] 28)).alloc (.cells #[.int .i64 0, .bool false, .slice none 0 0] 28) := ⟨_, rfl⟩
  have hB0 : Below w.heap.size w W0 := by rw [hW0]; exact ((((Below.refl _ w).alloc (Nat.le_refl _) _).alloc (by simp) _).alloc (by first | (simp; done) | (simp; omega)) _).alloc (by first | (simp; done) | (simp; omega)) _
  have g0 : W0.heap[w.heap.size]? = some (.cells #[.int .i64 N, .int .u32 pr, .int .i64 pw, .slice a chain.length cap, .int .u32 (sp : Int), .int .i64 wt, .int .u32 er] 25) := by rw [hW0, Below.heap_alloc _ _ _ (by first | (simp; done) | (simp; omega)), Below.heap_alloc _ _ _ (by first | (simp; done) | (simp; omega)), Below.heap_alloc _ _ _ (by simp)]; exact alloc_last _ _ rfl
  have e0 : W0.heap[w.heap.size + 1]? = some (.cells #[.int .i64 la, .bool sa, .slice aa xs.length ac] 28) := by rw [hW0, Below.heap_alloc _ _ _ (by first | (simp; done) | (simp; omega)), Below.heap_alloc _ _ _ (by simp)]; exact alloc_last _ _ (by simp)
  have e1 : W0.heap[w.heap.size + 1 + 1]? = some (.cells #[.int .i64 lb, .bool sb, .slice ba ys.length bc] 28) := by rw [hW0, Below.heap_alloc _ _ _ (by simp)]; exact alloc_last _ _ (by simp)
  have e2 : W0.heap[w.heap.size + 1 + 1 + 1]? = some (.cells #[.int .i64 0, .bool false, .slice none 0 0] 28) := by rw [hW0]; exact alloc_last _ _ (by simp)
  have hz0 := lt_of_heap e2
  have HR0 := Lib.hid ((hr.below hB0).mono hB0.size)
  have HA0 := Lib.hid ((ha.below hB0).mono hB0.size)
  have HB0 := Lib.hid ((hb.below hB0).mono hB0.size)
  have HT := Lib.hid (two_any N pr pw wt er _ chain sp la lb sa sb _ _ xs ys W0 HR0.out HA0.out HB0.out)
  rw [← hrr] at HT
  unfold OkPost at HT
  obtain ⟨c0, c1, c2, c3, c4, c5, c6⟩ := par_cells g0
  obtain ⟨k0, k1, k2, -, -, -⟩ := elem_cells e0
  obtain ⟨j0, j1, j2, -, -, -⟩ := elem_cells e1
  have HG0 := Lib.hid g0
  have HE0 := Lib.hid e0
  have HE1 := Lib.hid e1
  have HE2 := Lib.hid e2
  have HW0 := Lib.hid hW0
  have HRR := Lib.hid hrr
  have HMR := Lib.hid hmr
  have HAS := Lib.hid has
  have HBS := Lib.hid hbs
  clear hr ha hb g0 e0 e1 e2 hW0 hrr hmr has hbs
  cases r
  · go_enter Try.func27, Try.ntmps27
    go_upto_region 1 with (fail)
    rw [← HW0.out]
    go_wp2_with fail
    refine HT.out.mono ?_
    rintro e w1 ⟨rfl, hb1⟩
    have he1 := (hb1.block _ hz0).trans HE2.out
    obtain ⟨q0, q1, q2, f0, f1, f2⟩ := elem_cells he1
    have hBw := hB0.trans (hb1.mono hB0.size)
    clear he1
    go_wp2
    refine bodyPost_ret (v := .tuple #[.agg #[.int .i64 0, .bool false, .slice none 0 0], .int .i64 2]) ?_ rfl (EltPost.no_ ?_)
    · simp [results, Try.results27, go_sem, q0, q1, q2]
    · exact ((hBw.setCell (by simp; omega) _).setCell (by simp; omega) _).setCell (by simp; omega) _
  obtain ⟨rfl, rfl, n, lv, rfl, rfl, i1, i2, i3, i4, i5, i6, i7, i8⟩ := twoB_elt HRR.out.symm
  have HMR2 : Hid (mr = zipRows (sumRow 1 n) (modl chain sp lv sa) xs ys (modl chain sp lv sa).length) := by show _ = _; rw [HMR.out]; simp only [Int.toNat_natCast]
  have HSUM := Lib.hid (fun W hb => sum_any n lv pr pw wt er _ chain sp sa _ _ xs ys 1 W ((HR0.out.below hb).mono (Below.size hb)) ((HA0.out.below hb).mono (Below.size hb)) ((HB0.out.below hb).mono (Below.size hb)) i3 i4 i5 i2 i6 i7 i8 (by decide) (by decide))
  unfold MadeElt at HSUM
  rw [← HMR2.out] at HSUM
  clear i6 i7 i8 HMR HRR
  go_enter Try.func27, Try.ntmps27
  go_upto_region 1 with (fail)
  rw [← HW0.out]
  go_wp2_with fail
  refine HT.out.mono ?_
  rintro e w1 ⟨rfl, hb1⟩
  have hg1 := (hb1.block w.heap.size (by omega)).trans HG0.out
  have he1 := (hb1.block (w.heap.size + 1) (by omega)).trans HE0.out
  have hf1 := (hb1.block (w.heap.size + 1 + 1) (by omega)).trans HE1.out
  have hs1 := hb1.size
  have HS1 := HSUM.out w1 hb1
  clear c0 c1 c2 c3 c4 c5 c6 k0 k1 k2 j0 j1 j2
  obtain ⟨c0, c1, c2, c3, c4, c5, c6⟩ := par_cells hg1
  obtain ⟨k0, k1, k2, -, -, -⟩ := elem_cells he1
  obtain ⟨j0, j1, j2, -, -, -⟩ := elem_cells hf1
  clear hg1 he1 hf1
  go_wp2_with fail
  refine HS1.mono ?_
  rintro e w2 ⟨⟨rv, rfl, hrv⟩, hb2⟩
  have hB2 := hb1.trans (hb2.mono hs1)
  have he2 := (hB2.block _ hz0).trans HE2.out
  obtain ⟨q0, q1, q2, f0, f1, f2⟩ := elem_cells he2
  obtain ⟨ra, rc, rfl⟩ := hrv.open_
  have HRV := Lib.hid hrv
  have HE2' := Lib.hid he2
  have hBw := hB0.trans (hB2.mono hB0.size)
  have hlz := lt_of_heap he2
  clear c0 c1 c2 c3 c4 c5 c6 k0 k1 k2 j0 j1 j2 HS1 he2 hrv
  go_wp2
  obtain ⟨W6, hW6⟩ : ∃ W6, W6 = ((w2.setCell ⟨w.heap.size + 1 + 1 + 1, 0, none⟩ (.int .i64 (lv : Int))).setCell ⟨w.heap.size + 1 + 1 + 1, 1, none⟩ (.bool sa)).setCell ⟨w.heap.size + 1 + 1 + 1, 2, none⟩ (.slice ra mr.length rc) := ⟨_, rfl⟩
  obtain ⟨h6, -, hB6⟩ := elem_store HE2'.out hW6
  have hr6 : W6.rowsO u32V w1.heap.size 23 22 (.slice ra mr.length rc) mr := by
    rw [hW6]; exact ((HRV.out.setCell (by simp; omega) _).setCell (by simp; omega) _).setCell (by simp; omega) _
  obtain ⟨x0, x1, x2, -, -, -⟩ := elem_cells h6
  rw [← hW6]
  refine bodyPost_ret (v := .tuple #[.agg #[.int .i64 (lv : Int), .bool sa, .slice ra mr.length rc], .int .i64 0]) ?_ rfl (EltPost.ok_ (hr6.mono (by omega)) (hB6 _ _ hBw (by omega)))
  simp [results, Try.results27, go_sem, x0, x1, x2]
end Go.Proofs.Ytpcpgmgpkegjlaa
